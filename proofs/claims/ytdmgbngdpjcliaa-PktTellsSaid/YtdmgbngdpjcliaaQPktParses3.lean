/- (pkt.Packet).Key and Opens by contract; a part of a struct is read. No condition. -/
import Derived.Test.YtdmgbngdpjcliaaQPktMakes2
import Derived.Test.YtdmgbngdpjcliaaQPktBig1
import Derived.Test.YtdmgbngdpjcliaaQPktParses2
import Derived.Test.YtdmgbngdpjcliaaQPktBig16
import Derived.Test.YtdmgbngdpjcliaaQPktParses1
import Derived.Deep.DeepCutAuto
namespace Go.Proofs.Ytdmgbngdpjcliaa
open Go.RowKit Go.ChangeShapes Go.WideShapes Go.ChangeAt Go.Deep
theorem range_part {w : World} {g : Nat} {t : TypeId} {cs : Array Value} (h : w.heap[g]? = some (.cells cs t (0, 0))) (o n : Nat) (l : List Value) (hl : (cs.toList.drop o).take n = l) : w.rangeAt g o l := fun j v hv => by
  rw [blk_cell h (o + j)]
  rw [← hl, List.getElem?_take] at hv
  split at hv
  · rw [List.getElem?_drop] at hv
    simpa using hv
  · cases hv
namespace Pkt
def tuZ : Array Value := #[.int .i64 0, .bool false, .int .u64 0, .int .u64 0, .bool false, .int .u64 0, .int .u64 0, .int .i64 0, .int .i64 0]
theorem alloc_tu (o : Oper) (h : o.op = .alloc 56) (ρ : Operand → Value) (w : World) : (execOp ρ o).run Try.prog w = .ok (.value (.pointer (some ⟨w.heap.size, 0, none⟩))) (w.alloc (.cells tuZ 56)) := by
  obtain ⟨d, op, t, ps, af, g⟩ := o
  dsimp only at h
  subst h
  kernel_rfl
set_option maxRecDepth 20000 in
set_option maxHeartbeats 4000000 in
theorem eql_tu {op : Oper} (pr : Int) (sv : Bool) (shi slo : Int) (dv : Bool) (dhi dlo sp dp : Int) (ev : Operand → Value) (x y : Operand) (ho : op.op = .binOp .eql 56 x y 56) (hx : ev x = .agg (tuA pr sv shi slo dv dhi dlo sp dp)) (hy : ev y = .agg (tuA pr sv shi slo dv dhi dlo sp dp)) (w : World) :
    (execOp ev op).run Try.prog w = .ok (.value (.bool true)) w := by
  unfold execOp
  simp only [ho, hx, hy]
  clear hx hy ho
  unfold tuA
  simp [go_sem]
/-- The flow by which a packet is steered. -/
def keyA (er : Bool) (a b : Array Value) : Array Value := if er = true then b else a
section
variable (v6 : Bool) (pr : Int) (sv : Bool) (shi slo : Int) (dv : Bool) (dhi dlo sp dp ttl fl : Int) (er : Bool) (apr : Int) (asv : Bool) (ashi aslo : Int) (adv : Bool) (adhi adlo asp adp sz : Int)
set_option maxRecDepth 20000 in
set_option maxHeartbeats 4000000 in
theorem key_any (w : World) : Calls Try.prog 32 #[.agg (pkG v6 pr sv shi slo dv dhi dlo sp dp ttl fl er apr asv ashi aslo adv adhi adlo asp adp sz)] w fun e w' => e = .returned (.agg (keyA er (tuA pr sv shi slo dv dhi dlo sp dp) (tuA apr asv ashi aslo adv adhi adlo asp adp))) ∧ Below w.heap.size w w' := by
  obtain ⟨cs, hcs⟩ : ∃ cs, pkG v6 pr sv shi slo dv dhi dlo sp dp ttl fl er apr asv ashi aslo adv adhi adlo asp adp sz = cs := ⟨_, rfl⟩
  have hs : cs.size = 23 := hcs ▸ rfl
  have l1 : (cs.toList.drop 1).take 9 = (tuA pr sv shi slo dv dhi dlo sp dp).toList := hcs ▸ rfl
  have l2 : (cs.toList.drop 13).take 9 = (tuA apr asv ashi aslo adv adhi adlo asp adp).toList := hcs ▸ rfl
  have l3 : cs[12]? = some (.bool er) := hcs ▸ rfl
  rw [hcs]
  clear hcs
  obtain ⟨w2, hw2, hb2, hg0, hg1, hz2⟩ : ∃ w', (w.alloc (.cells cs 58)).alloc (.cells tuZ 56) = w' ∧ Below w.heap.size w w' ∧ w'.heap[w.heap.size]? = some (.cells cs 58 (0, 0)) ∧ w'.heap[w.heap.size + 1]? = some (.cells tuZ 56 (0, 0)) ∧ w.heap.size + 2 ≤ w'.heap.size :=
    ⟨_, rfl, ((Below.refl _ _).alloc (Nat.le_refl _) _).alloc (by simp) _, blk_old _ (by simp) (blk_new _ _ _), by simpa using blk_new (w.alloc (.cells cs 58)) 56 tuZ, by simp⟩
  have hc12 := (blk_cell hg0 12).trans l3
  unfold tuZ at hw2
  replace hb2 := hide hb2
  replace hg0 := hide hg0
  replace hg1 := hide hg1
  replace l1 := hide l1
  replace l2 := hide l2
  replace l3 := hide l3
  go_enter Try.func32, Try.ntmps32
  rcases er with _ | _
  · go_upto_region 3 with fail
    clear hw2 hc12
    apply wp_region_lit
    iterate 1 (refine wpList_plain rfl fun K hK => ?_; go_simp; refine hK _ _ ?_; clear hK K)
    refine wpList_load_mid rfl 56 (.tmp 7) rfl w.heap.size 1 rfl (tuA pr sv shi slo dv dhi dlo sp dp).toList _ (range_part hg0.out 1 9 _ l1.out) Try.underlying56 rfl size_tu ?_
    refine wpl_st rfl 56 (.tmp 2) (.tmp 8) rfl (w.heap.size + 1) 0 rfl (tuA pr sv shi slo dv dhi dlo sp dp) rfl hg1.out (show 0 + 9 ≤ 9 by omega) size_tu (tuA_one _ _ _ _ _ _ _ _ _) fun w9 hg9 g9 => ?_
    rw [putA_whole tuZ (tuA pr sv shi slo dv dhi dlo sp dp) rfl] at hg9
    have hB9 := hb2.out.trans (below_grown g9 (by omega) (by omega))
    have hld : (loadVar 56 ⟨w.heap.size + 1, 0, none⟩).run Try.prog w9 = .ok (.agg (tuA pr sv shi slo dv dhi dlo sp dp)) w9 := by
      simpa using run_loadVar_mid w9 (w.heap.size + 1) 0 56 (tuA pr sv shi slo dv dhi dlo sp dp).toList _ (blk_range hg9) Try.underlying56 rfl size_tu
    clear g9
    replace hg9 := hide hg9
    replace hB9 := hide hB9
    replace hld := hide hld
    refine wpList_nil ?_
    go_wp2_with fail
    exact bodyPost_ret (v := .agg (tuA pr sv shi slo dv dhi dlo sp dp)) (by simp [results, Try.results32, asAddr, Act.put, hld.out, Result.andThen]) rfl ⟨rfl, hB9.out⟩
  · go_upto_region 2 with fail
    clear hw2 hc12
    apply wp_region_lit
    iterate 1 (refine wpList_plain rfl fun K hK => ?_; go_simp; refine hK _ _ ?_; clear hK K)
    refine wpList_load_mid rfl 56 (.tmp 5) rfl w.heap.size 13 rfl (tuA apr asv ashi aslo adv adhi adlo asp adp).toList _ (range_part hg0.out 13 9 _ l2.out) Try.underlying56 rfl size_tu ?_
    refine wpl_st rfl 56 (.tmp 2) (.tmp 6) rfl (w.heap.size + 1) 0 rfl (tuA apr asv ashi aslo adv adhi adlo asp adp) rfl hg1.out (show 0 + 9 ≤ 9 by omega) size_tu (tuA_one _ _ _ _ _ _ _ _ _) fun w9 hg9 g9 => ?_
    rw [putA_whole tuZ (tuA apr asv ashi aslo adv adhi adlo asp adp) rfl] at hg9
    have hB9 := hb2.out.trans (below_grown g9 (by omega) (by omega))
    have hld : (loadVar 56 ⟨w.heap.size + 1, 0, none⟩).run Try.prog w9 = .ok (.agg (tuA apr asv ashi aslo adv adhi adlo asp adp)) w9 := by
      simpa using run_loadVar_mid w9 (w.heap.size + 1) 0 56 (tuA apr asv ashi aslo adv adhi adlo asp adp).toList _ (blk_range hg9) Try.underlying56 rfl size_tu
    clear g9
    replace hg9 := hide hg9
    replace hB9 := hide hB9
    replace hld := hide hld
    refine wpList_nil ?_
    go_wp2_with fail
    exact bodyPost_ret (v := .agg (tuA apr asv ashi aslo adv adhi adlo asp adp)) (by simp [results, Try.results32, asAddr, Act.put, hld.out, Result.andThen]) rfl ⟨rfl, hB9.out⟩
end
theorem has_any (fl m : Int) (w : World) : Calls Try.prog 90 #[.agg #[.int .i64 0, .int .i64 0, .int .u32 0, .int .u32 0, .int .i64 fl, .int .i64 0, .int .i64 0, .slice none 0 0], .int .i64 m] w fun e w' => e = .returned (.bool (bits .and .i64 fl m == m)) ∧ Below w.heap.size w w' := by
  have hb := ((Below.refl w.heap.size w).alloc (Nat.le_refl _) (.cells #[.int .i64 0, .int .i64 0, .int .u32 0, .int .u32 0, .int .i64 fl, .int .i64 0, .int .i64 0, .slice none 0 0] 92))
  replace hb := hide hb
  go_enter Try.func90, Try.ntmps90
  go_wp2_with fail
  go_ret
  exact ⟨rfl, hb.out⟩
/-- Whether flags open a connection. -/
def opF (fl : Nat) : Bool := decide (fl / 2 % 2 = 1 ∧ fl % 2 = 0 ∧ fl / 4 % 2 = 0 ∧ fl / 16 % 2 = 0)
theorem opF_bits : ∀ fl : Fin 256, (((bits .and .i64 (fl.val : Int) 2 == 2) && (bits .and .i64 (fl.val : Int) 21 == 0)) = opF fl.val) := by decide +kernel
set_option maxRecDepth 20000 in
set_option maxHeartbeats 4000000 in
theorem topens_any (fl : Nat) (hfl : fl ≤ 255) (w : World) : Calls Try.prog 65 #[.agg #[.int .i64 0, .int .i64 0, .int .u32 0, .int .u32 0, .int .i64 (fl : Int), .int .i64 0, .int .i64 0, .slice none 0 0]] w fun e w' => e = .returned (.bool (opF fl)) ∧ Below w.heap.size w w' := by
  have hop := opF_bits ⟨fl, by omega⟩
  dsimp only at hop
  have hb := ((Below.refl w.heap.size w).alloc (Nat.le_refl _) (.cells #[.int .i64 0, .int .i64 0, .int .u32 0, .int .u32 0, .int .i64 (fl : Int), .int .i64 0, .int .i64 0, .slice none 0 0] 92))
  have hg := blk_new w 92 #[.int .i64 0, .int .i64 0, .int .u32 0, .int .u32 0, .int .i64 (fl : Int), .int .i64 0, .int .i64 0, .slice none 0 0]
  obtain ⟨w1, hw1⟩ : ∃ w1, w.alloc (.cells #[.int .i64 0, .int .i64 0, .int .u32 0, .int .u32 0, .int .i64 (fl : Int), .int .i64 0, .int .i64 0, .slice none 0 0] 92) = w1 := ⟨_, rfl⟩
  have hz1 : w.heap.size < w1.heap.size := by rw [← hw1]; simp
  rw [hw1] at hb hg
  have hc := blk_cell hg
  obtain ⟨b1, hb1⟩ : ∃ b1, (bits .and .i64 (fl : Int) 2 == 2) = b1 := ⟨_, rfl⟩
  obtain ⟨b2, hb2⟩ : ∃ b2, (bits .and .i64 (fl : Int) 21 == 0) = b2 := ⟨_, rfl⟩
  rw [hb1, hb2] at hop
  have hH := fun w : World => has_any (fl : Int) 2 w
  rw [hb1] at hH
  rw [← hop]
  replace hb := hide hb
  replace hg := hide hg
  replace hop := hide hop
  replace hH := hide hH
  replace hb1 := hide hb1
  go_enter Try.func65, Try.ntmps65
  go_wp2_with fail
  refine (hH.out _).mono ?_
  rintro e w2 ⟨rfl, hbb⟩
  have hc2 := blk_cell (blk_below hbb hz1 hg.out)
  have hB := hb.out.trans (hbb.mono hb.out.size)
  clear hw1 hc hbb
  replace hB := hide hB
  rcases b1 with _ | _
  · go_wp2_with fail
    go_ret
    exact ⟨rfl, hB.out⟩
  · go_wp2_with fail
    go_ret
    exact ⟨by simp [hb2], hB.out⟩
/-- Whether a packet opens a connection. -/
def opB (pr : Int) (fl : Nat) : Bool := (pr == 6) && opF fl
section
variable (v6 : Bool) (pr : Int) (sv : Bool) (shi slo : Int) (dv : Bool) (dhi dlo sp dp ttl : Int) (fl : Nat) (er : Bool) (apr : Int) (asv : Bool) (ashi aslo : Int) (adv : Bool) (adhi adlo asp adp sz : Int)
set_option maxRecDepth 20000 in
set_option maxHeartbeats 4000000 in
theorem opens_any (hfl : fl ≤ 255) (w : World) : Calls Try.prog 33 #[.agg (pkG v6 pr sv shi slo dv dhi dlo sp dp ttl fl er apr asv ashi aslo adv adhi adlo asp adp sz)] w fun e w' => e = .returned (.bool (opB pr fl)) ∧ Below w.heap.size w w' := by
  obtain ⟨cs, hcs⟩ : ∃ cs, pkG v6 pr sv shi slo dv dhi dlo sp dp ttl fl er apr asv ashi aslo adv adhi adlo asp adp sz = cs := ⟨_, rfl⟩
  have l1 : cs[1]? = some (.int .i64 pr) := hcs ▸ rfl
  have l2 : cs[11]? = some (.int .i64 (fl : Int)) := hcs ▸ rfl
  rw [hcs]
  clear hcs
  have hb := ((Below.refl w.heap.size w).alloc (Nat.le_refl _) (.cells cs 58))
  have hg := blk_new w 58 cs
  obtain ⟨w1, hw1⟩ : ∃ w1, w.alloc (.cells cs 58) = w1 := ⟨_, rfl⟩
  rw [hw1] at hb hg
  have hc1 := (blk_cell hg 1).trans l1
  have hc2 := (blk_cell hg 11).trans l2
  have hT := fun w : World => topens_any fl hfl w
  unfold opB
  clear l1 l2
  replace hb := hide hb
  replace hg := hide hg
  replace hT := hide hT
  by_cases h : pr = 6
  · subst h
    go_enter Try.func33, Try.ntmps33
    go_wp2_with fail
    refine (hT.out _).mono ?_
    rintro e w2 ⟨rfl, hbb⟩
    have hB := hb.out.trans (hbb.mono hb.out.size)
    clear hw1 hc1 hc2 hbb
    replace hB := hide hB
    go_wp2_with fail
    go_ret
    exact ⟨by simp, hB.out⟩
  · have t : (pr == 6) = false := by simpa using h
    rw [t]
    go_enter Try.func33, Try.ntmps33
    go_wp2_with fail
    go_ret
    exact ⟨rfl, hb.out⟩
end
end Pkt
end Go.Proofs.Ytdmgbngdpjcliaa
/- The statement PktParses, walked: any bytes are parsed as the packet that they are, or as none, and why. Condition: a slice of bytes that reads as a list. -/
namespace Go.Proofs.Ytdmgbngdpjcliaa
open Go.RowKit Go.ChangeShapes Go.WideShapes Go.ChangeAt Go.Deep
namespace Pkt
theorem keyA_one (er : Bool) (a b : Array Value) (ha : a.all (·.oneCell') = true) (hb : b.all (·.oneCell') = true) : (keyA er a b).all (·.oneCell') = true := by
  unfold keyA
  split
  · exact hb
  · exact ha
set_option maxRecDepth 20000 in
set_option maxHeartbeats 8000000 in
theorem parses_cut (A : Option Addr) (n0 n c : Nat) (xs : List UInt8) (w : World) (hx : IsB w w.heap.size A n xs) (hn : min n0 500 = n) (hnc : n0 ≤ c) (hcm : c ≤ maxLen) :
    Calls Try.prog 8 #[.slice A n0 c] w fun e w' => e = .returned (.bool true) ∧ Below w.heap.size w w' := by
  obtain ⟨K, y, hyy, hP, hL⟩ := parse_both n xs (by omega) A c w hx (by omega) hcm
  have hn0 : n0 ≤ maxLen := by omega
  have hnc1 : n ≤ c := by omega
  have hyy' : K = 0 → y.size = 23 ∧ y.all (·.oneCell') = true := fun h => ⟨(hyy h).1, (hyy h).2.1⟩
  obtain ⟨z, hz⟩ : ∃ z, (if K = 0 then y else pkZ) = z := ⟨_, rfl⟩
  have hzG : IsG z := by
    rw [← hz]
    split
    · exact (hyy (by assumption)).2.2
    · exact ⟨false, 0, false, 0, 0, false, 0, 0, 0, 0, 0, 0, false, 0, false, 0, 0, false, 0, 0, 0, 0, 0, by omega, rfl⟩
  obtain ⟨v6, pr, sv, shi, slo, dv, dhi, dlo, sp, dp, ttl, fl, er, apr, asv, ashi, aslo, adv, adhi, adlo, asp, adp, sz, hfl, hzE⟩ := hzG
  have hPc := hP A c w hx hnc1 hcm
  have hzs : z.size = 23 := hzE ▸ rfl
  have hzo : z.all (·.oneCell') = true := hzE ▸ pkG_one _ _ _ _ _ _ _ _ _ _ _ _ _ _ _ _ _ _ _ _ _ _ _
  clear hyy hP
  replace hx := hide hx
  replace hn := hide hn
  replace hPc := hide hPc
  replace hL := hide hL
  replace hzE := hide hzE
  replace hzs := hide hzs
  replace hzo := hide hzo
  replace hyy' := hide hyy'
  replace hz := hide hz
  go_enter Try.func8, Try.ntmps8
  go_wp2_with fail
  refine (Tun.pcut_as A n0 c n _ hn0 hnc hn.out).mono ?_
  rintro e w' ⟨rfl, rfl⟩
  go_upto_region 2 with fail
  apply wp_region_lit
  iterate 1 (refine wpList_plain rfl fun K hK => ?_; go_simp; refine hK _ _ ?_; clear hK K)
  refine wpList_plain rfl fun K hK => ?_
  go_simp
  refine (hPc.out).mono ?_
  rintro e w1 hE
  obtain ⟨z1, rfl, -, -, hz1, hb1⟩ := hE.letter hyy'.out
  obtain rfl : z = z1 := hz.out.symm.trans hz1
  have hx1 := hx.out.on hb1
  clear hE hPc hz1
  replace hb1 := hide hb1
  replace hx1 := hide hx1
  go_simp
  refine hK _ _ ?_
  clear hK K
  iterate 3 (refine wpList_plain rfl fun K hK => ?_; go_simp; refine hK _ _ ?_; clear hK K)
  refine wpl_new rfl rfl 58 _ (alloc_pk _ rfl) 3 rfl (.tmp 14) rfl _ (fun _ => rfl) (fun _ => rfl) (by rw [pkZ_size]; exact hzs.out) (by rw [size_pk, hzs.out]) hzo.out ?_
  intro w2 hgp hb2 hz2
  have hB2 := hb1.out.trans (hb2.mono hb1.out.size)
  have hx2 := hx1.out.on hb2
  have hLc := hL.out A c w2 hx2 hnc1 hcm
  have hs1 := hb1.out.size
  clear hb1 hb2 hx1 hx2
  replace hB2 := hide hB2
  replace hgp := hide hgp
  replace hLc := hide hLc
  iterate 1 (refine wpList_plain rfl fun K hK => ?_; go_simp; refine hK _ _ ?_; clear hK K)
  refine wpList_nil ?_
  go_upto_region 3 with fail
  apply wp_region_lit
  iterate 1 (refine wpList_plain rfl fun K hK => ?_; go_simp; refine hK _ _ ?_; clear hK K)
  refine wpList_plain rfl fun K hK => ?_
  go_simp
  refine (hLc.out).mono ?_
  rintro e w3 hE
  obtain ⟨z3, rfl, -, -, hz3, hb3⟩ := hE.letter hyy'.out
  obtain rfl : z = z3 := hz.out.symm.trans hz3
  have hgp3 := blk_below hb3 hz2 hgp.out
  have hB3 := hB2.out.trans (hb3.mono hB2.out.size)
  have hs3 := hb3.size
  clear hE hLc hz3 hb3 hB2 hgp
  replace hB3 := hide hB3
  replace hgp3 := hide hgp3
  go_simp
  refine hK _ _ ?_
  clear hK K
  iterate 3 (refine wpList_plain rfl fun K hK => ?_; go_simp; refine hK _ _ ?_; clear hK K)
  refine wpl_new rfl rfl 58 _ (alloc_pk _ rfl) 5 rfl (.tmp 19) rfl _ (fun _ => rfl) (fun _ => rfl) (by rw [pkZ_size]; exact hzs.out) (by rw [size_pk, hzs.out]) hzo.out ?_
  intro w4 hgw hb4 hz4
  have hB4 := hB3.out.trans (hb4.mono hB3.out.size)
  have hgp4 := blk_below hb4 (by omega) hgp3.out
  clear hb4 hB3 hgp3
  iterate 1 (refine wpList_plain rfl fun K hK => ?_; go_simp; refine hK _ _ ?_; clear hK K)
  refine wpList_nil ?_
  have l1 : (z.toList.drop 1).take 9 = (tuA pr sv shi slo dv dhi dlo sp dp).toList := hzE.out ▸ rfl
  have l2 : (z.toList.drop 13).take 9 = (tuA apr asv ashi aslo adv adhi adlo asp adp).toList := hzE.out ▸ rfl
  have l3 : z[12]? = some (.bool er) := hzE.out ▸ rfl
  have l4 : z[1]? = some (.int .i64 pr) := hzE.out ▸ rfl
  have l5 : z[11]? = some (.int .i64 (fl : Int)) := hzE.out ▸ rfl
  replace hB4 := hide hB4
  replace hgp4 := hide hgp4
  replace l1 := hide l1
  replace l2 := hide l2
  replace l3 := hide l3
  replace l4 := hide l4
  replace l5 := hide l5
  -- the key
  go_upto_region 4 with fail
  apply wp_region_lit
  iterate 1 (refine wpList_plain rfl fun K hK => ?_; go_simp; refine hK _ _ ?_; clear hK K)
  refine wpList_load_mid rfl 56 (.tmp 21) rfl w3.heap.size 1 rfl (tuA pr sv shi slo dv dhi dlo sp dp).toList _ (range_part hgw 1 9 _ l1.out) Try.underlying56 rfl size_tu ?_
  refine wpl_new rfl rfl 56 _ (alloc_tu _ rfl) 7 rfl (.tmp 22) rfl _ (fun _ => rfl) (fun _ => rfl) (show 9 = 9 from rfl) size_tu (tuA_one _ _ _ _ _ _ _ _ _) ?_
  intro w5 hgk hb5 hz5
  have hB5 := hB4.out.trans (hb5.mono hB4.out.size)
  have hgp5 := blk_below hb5 (by omega) hgp4.out
  have hgw5 := blk_below hb5 (by omega) hgw
  clear hb5 hB4 hgp4 hgw
  refine wpList_nil ?_
  have hc12 := (blk_cell hgw5 12).trans l3.out
  obtain ⟨kA, hkA, pr', sv', shi', slo', dv', dhi', dlo', sp', dp', hkT⟩ : ∃ kA, keyA er (tuA pr sv shi slo dv dhi dlo sp dp) (tuA apr asv ashi aslo adv adhi adlo asp adp) = kA ∧ ∃ pr' sv' shi' slo' dv' dhi' dlo' sp' dp', kA = tuA pr' sv' shi' slo' dv' dhi' dlo' sp' dp' := by
    cases er with
    | true => exact ⟨_, rfl, _, _, _, _, _, _, _, _, _, rfl⟩
    | false => exact ⟨_, rfl, _, _, _, _, _, _, _, _, _, rfl⟩
  have z5 : w3.heap.size < w5.heap.size := blk_lt hgw5
  have z5' : w1.heap.size < w3.heap.size := by omega
  have zw1 : w.heap.size ≤ w1.heap.size := by omega
  replace hB5 := hide hB5
  replace hgp5 := hide hgp5
  replace hgw5 := hide hgw5
  replace hkA := hide hkA
  replace hkT := hide hkT
  go_upto_if 24 with fail
  go_cut [] (fun wx => ∃ w6, w6.heap[w4.heap.size]? = some (.cells kA 56 (0, 0)) ∧ w5.grownBy w6 (some w4.heap.size) ∧ w6 = wx)
  case first =>
    have hk1 := hkA.out
    rcases er with _ | _
    · replace hk1 : tuA pr sv shi slo dv dhi dlo sp dp = kA := hk1
      subst hk1
      clear hc12
      go_wp2_with fail
      go_meet
      exact ⟨w5, hgk, grown_refl _ _, rfl⟩
    · replace hk1 : tuA apr asv ashi aslo adv adhi adlo asp adp = kA := hk1
      subst hk1
      clear hc12
      go_upto_region 6 with fail
      apply wp_region_lit
      iterate 1 (refine wpList_plain rfl fun K hK => ?_; go_simp; refine hK _ _ ?_; clear hK K)
      refine wpList_load_mid rfl 56 (.tmp 25) rfl w3.heap.size 13 rfl (tuA apr asv ashi aslo adv adhi adlo asp adp).toList _ (range_part hgw5.out 13 9 _ l2.out) Try.underlying56 rfl size_tu ?_
      refine wpl_st rfl 56 (.tmp 7) (.tmp 26) rfl w4.heap.size 0 rfl (tuA apr asv ashi aslo adv adhi adlo asp adp) rfl hgk (show 0 + 9 ≤ 9 by omega) size_tu (tuA_one _ _ _ _ _ _ _ _ _) fun w9 hg9 g9 => ?_
      rw [putA_whole (tuA pr sv shi slo dv dhi dlo sp dp).toList.toArray (tuA apr asv ashi aslo adv adhi adlo asp adp) rfl] at hg9
      replace hg9 := hide hg9
      replace g9 := hide g9
      refine wpList_nil ?_
      go_wp2_with fail
      go_meet
      exact ⟨w9, hg9.out, g9.out, rfl⟩
  case rest =>
  obtain ⟨w6, hgk6, hgr, rfl⟩ := hcut
  clear hc12 hgk
  have hgp6 := grown_other hgr (by omega) (by omega) hgp5.out
  have hgw6 := grown_other hgr (by omega) (by omega) hgw5.out
  have hB6 := hB5.out.trans (below_grown hgr (by omega) (by omega))
  clear hgp5 hgw5 hB5
  have hzs6 := hgr.size
  clear hgr
  have hc1 := (blk_cell hgw6 1).trans l4.out
  have hc11 := (blk_cell hgw6 11).trans l5.out
  obtain ⟨ob, hob⟩ : ∃ ob, opB pr fl = ob := ⟨_, rfl⟩
  replace hgp6 := hide hgp6
  replace hgw6 := hide hgw6
  replace hgk6 := hide hgk6
  replace hB6 := hide hB6
  replace hob := hide hob
  go_upto_region 7 with fail
  go_cut [8] (fun bv wx => bv = .bool ob ∧ w6 = wx)
  case first =>
    have ho := hob.out
    unfold opB opF at ho
    by_cases hpr : pr = 6
    · subst hpr
      by_cases f1 : fl / 2 % 2 = 1
      · have t1 : ((fl : Int) / 2 % 2 == 1) = true := by rw [beq_iff_eq]; omega
        by_cases f2 : fl % 2 = 0
        · have t2 : ((fl : Int) % 2 == 0) = true := by rw [beq_iff_eq]; omega
          by_cases f3 : fl / 4 % 2 = 0
          · have t3 : ((fl : Int) / 4 % 2 == 0) = true := by rw [beq_iff_eq]; omega
            by_cases f4 : fl / 16 % 2 = 0
            · have t4 : ((fl : Int) / 16 % 2 == 0) = true := by rw [beq_iff_eq]; omega
              rw [decide_eq_true ⟨f1, f2, f3, f4⟩] at ho
              obtain rfl : true = ob := ho
              clear f1 f2 f3 f4
              go_wp2_with fail
              go_meet
              exact ⟨rfl, rfl⟩
            · have t4 : ((fl : Int) / 16 % 2 == 0) = false := by rw [beq_eq_false_iff_ne]; omega
              rw [decide_eq_false (fun h => f4 h.2.2.2)] at ho
              obtain rfl : false = ob := ho
              clear f1 f2 f3 f4
              go_wp2_with fail
              go_meet
              exact ⟨rfl, rfl⟩
          · have t3 : ((fl : Int) / 4 % 2 == 0) = false := by rw [beq_eq_false_iff_ne]; omega
            rw [decide_eq_false (fun h => f3 h.2.2.1)] at ho
            obtain rfl : false = ob := ho
            clear f1 f2 f3
            go_wp2_with fail
            go_meet
            exact ⟨rfl, rfl⟩
        · have t2 : ((fl : Int) % 2 == 0) = false := by rw [beq_eq_false_iff_ne]; omega
          rw [decide_eq_false (fun h => f2 h.2.1)] at ho
          obtain rfl : false = ob := ho
          clear f1 f2
          go_wp2_with fail
          go_meet
          exact ⟨rfl, rfl⟩
      · have t1 : ((fl : Int) / 2 % 2 == 1) = false := by rw [beq_eq_false_iff_ne]; omega
        rw [decide_eq_false (fun h => f1 h.1)] at ho
        obtain rfl : false = ob := ho
        clear f1
        go_wp2_with fail
        go_meet
        exact ⟨rfl, rfl⟩
    · have t0 : (pr == 6) = false := by rw [beq_eq_false_iff_ne]; exact hpr
      rw [t0] at ho
      obtain rfl : false = ob := ho
      clear hpr
      go_wp2_with fail
      go_meet
      exact ⟨rfl, rfl⟩
  case rest =>
  obtain ⟨rfl, rfl⟩ := hcut
  clear hc1 hc11
  have hKey := fun w : World => key_any v6 pr sv shi slo dv dhi dlo sp dp ttl fl er apr asv ashi aslo adv adhi adlo asp adp sz w
  have hOps := fun w : World => opens_any v6 pr sv shi slo dv dhi dlo sp dp ttl fl er apr asv ashi aslo adv adhi adlo asp adp sz hfl w
  rw [← hzE.out, hkA.out] at hKey
  rw [← hzE.out, hob.out] at hOps
  have hks : kA.size = 9 := by rw [hkT.out]; rfl
  have zp : w1.heap.size < w6.heap.size := blk_lt hgp6.out
  have zw : w3.heap.size < w6.heap.size := blk_lt hgw6.out
  have zk : w4.heap.size < w6.heap.size := blk_lt hgk6.out
  replace hKey := hide hKey
  replace hOps := hide hOps
  replace hks := hide hks
  go_upto_region 8 with fail
  refine wp_region_L (by as_aux_lemma => kernel_rfl) ?_
  refine wpE_seg 0 24 (fuel := 0) (by as_aux_lemma => kernel_rfl) (fun d _ _ _ _ h => by cases d <;> exact h) (by as_aux_lemma => kernel_rfl) (by as_aux_lemma => kernel_rfl) ?_
  simp only [List.drop_zero, List.take_succ_cons, List.take_zero]
  refine wpQE_val (.agg z) rfl (fun l => run_ldw l.w _ 58 (.tmp 3) rfl w1.heap.size rfl z _ (blk_below l.hb zp hgp6.out) Try.underlying58 rfl (by rw [size_pk, hzs.out])) ?_
  dsimp only [Act.put]
  refine wpQE_val (.agg z) rfl (fun l => run_ldw l.w _ 58 (.tmp 5) rfl w3.heap.size rfl z _ (blk_below l.hb zw hgw6.out) Try.underlying58 rfl (by rw [size_pk, hzs.out])) ?_
  dsimp only [Act.put]
  refine wpQE_val (.bool true) rfl (fun l => eql_pk v6 pr sv shi slo dv dhi dlo sp dp ttl fl er apr asv ashi aslo adv adhi adlo asp adp sz _ (.tmp 58) (.tmp 59) rfl (by rw [← hzE.out]; rfl) (by rw [← hzE.out]; rfl) l.w) ?_
  dsimp only [Act.put]
  iterate 6 (refine wpQE_step (fun K hK => ?_); go_simp; refine hK _ ?_; clear hK K)
  refine wpQE_val (.agg z) rfl (fun l => run_ldw l.w _ 58 (.tmp 3) rfl w1.heap.size rfl z _ (blk_below l.hb zp hgp6.out) Try.underlying58 rfl (by rw [size_pk, hzs.out])) ?_
  dsimp only [Act.put]
  (refine wpQE_step (fun K hK => ?_); go_simp; apply Exists.intro; refine ⟨fun l => ?_, hK _ ?_⟩; (go_at_call 32; refine (hKey.out l.w).mono ?_; rintro e w' ⟨rfl, hb⟩; exact ⟨rfl, hb⟩); clear hK K)
  refine wpQE_val (.agg kA) rfl (fun l => run_ldw l.w _ 56 (.tmp 7) rfl w4.heap.size rfl kA _ (blk_below l.hb zk hgk6.out) Try.underlying56 rfl (by rw [size_tu, hks.out])) ?_
  dsimp only [Act.put]
  refine wpQE_val (.bool true) rfl (fun l => eql_tu pr' sv' shi' slo' dv' dhi' dlo' sp' dp' _ (.tmp 68) (.tmp 69) rfl (by rw [← hkT.out]; rfl) (by rw [← hkT.out]; rfl) l.w) ?_
  dsimp only [Act.put]
  iterate 2 (refine wpQE_step (fun K hK => ?_); go_simp; refine hK _ ?_; clear hK K)
  refine wpQE_val (.agg z) rfl (fun l => run_ldw l.w _ 58 (.tmp 3) rfl w1.heap.size rfl z _ (blk_below l.hb zp hgp6.out) Try.underlying58 rfl (by rw [size_pk, hzs.out])) ?_
  dsimp only [Act.put]
  (refine wpQE_step (fun K hK => ?_); go_simp; apply Exists.intro; refine ⟨fun l => ?_, hK _ ?_⟩; (go_at_call 33; refine (hOps.out l.w).mono ?_; rintro e w' ⟨rfl, hb⟩; exact ⟨rfl, hb⟩); clear hK K)
  iterate 4 (refine wpQE_step (fun K hK => ?_); go_simp; refine hK _ ?_; clear hK K)
  (refine wpQE_step (fun K hK => ?_); go_simp; apply Exists.intro; refine ⟨fun l => ?_, hK _ ?_⟩; (go_at_call 30; refine (awake_any l.w).mono ?_; rintro e w' ⟨rfl, hb⟩; exact ⟨rfl, hb⟩); clear hK K)
  iterate 2 (refine wpQE_step (fun K hK => ?_); go_simp; refine hK _ ?_; clear hK K)
  refine wpQE_nil ?_
  refine wpE_done (by as_aux_lemma => kernel_rfl) (fun w8 hb8 => ?_) 0
  have hB8 := hB6.out.trans (hb8.mono hB6.out.size)
  clear hb8
  replace hB8 := hide hB8
  go_wp2_with fail
  go_ret
  exact ⟨rfl, hB8.out⟩
theorem parses_walk (A : Option Addr) (n0 c : Nat) (xs : List UInt8) (w : World) (hx : IsB w w.heap.size A n0 xs) (hnc : n0 ≤ c) (hcm : c ≤ maxLen) :
    Calls Try.prog 8 #[.slice A n0 c] w fun e w' => e = .returned (.bool true) ∧ Below w.heap.size w w' :=
  parses_cut A n0 _ c _ w (hx.take (m := min n0 500) (by omega)) rfl hnc hcm
end Pkt
end Go.Proofs.Ytdmgbngdpjcliaa
