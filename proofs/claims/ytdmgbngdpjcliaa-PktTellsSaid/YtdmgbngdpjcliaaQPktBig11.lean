/- pkt.Packet's quote, by contract: a message of an error. Conditions: a packet of 23 cells, slices of bytes that read as lists. -/
import Derived.Test.YtdmgbngdpjcliaaQPktBig3
import Derived.Test.YtdmgbngdpjcliaaQPktBig10
import Derived.Test.YtdmgbngdpjcliaaQPktBig4
import Derived.Test.YtdmgbngdpjcliaaQPktBig7
import Derived.Test.YtdmgbngdpjcliaaQPktBig6
import Derived.Deep.DeepCutAuto
namespace Go.Proofs.Ytdmgbngdpjcliaa
open Go.RowKit Go.ChangeShapes Go.WideShapes Go.ChangeAt Go.Deep
namespace Pkt
/-- What goes ahead of a message in its check. -/
def aheadP (v6 : Bool) (ps : List UInt8) : List UInt8 := if v6 = true then ps else []
/-- The packet of an error about a flow. -/
def errA (cs ab : Array Value) : Array Value := putA (cs.setIfInBounds 12 (.bool true)) 13 ab.toList
def QuoteEnd (K1 K2 : Nat) (y : Value) (w w' : World) (e : Ending) : Prop :=
  ((K1 ≠ 0 → e = .returned (.tuple #[.agg pkZ, .int .i64 (K1 : Int)])) ∧ (K1 = 0 → K2 ≠ 0 → e = .returned (.tuple #[.agg pkZ, .int .i64 (K2 : Int)])) ∧ (K1 = 0 → K2 = 0 → e = .returned (.tuple #[y, .int .i64 0]))) ∧ Below w.heap.size w w'
/-- Two blocks, new. -/
theorem made_two (w : World) (a b : Array Value) (t u : TypeId) : ∃ w', (w.alloc (.cells a t)).alloc (.cells b u) = w' ∧ Below w.heap.size w w' ∧ w'.heap[w.heap.size]? = some (.cells a t (0, 0)) ∧ w'.heap[w.heap.size + 1]? = some (.cells b u (0, 0)) ∧ w.heap.size + 2 ≤ w'.heap.size :=
  ⟨_, rfl, ((Below.refl _ _).alloc (Nat.le_refl _) _).alloc (by simp) _, blk_old _ (by simp) (blk_new _ _ _), by simpa using blk_new (w.alloc (.cells a t)) u b, by simp⟩
set_option maxRecDepth 20000 in
set_option maxHeartbeats 16000000 in
theorem quote_any (cs : Array Value) (hcs : cs.size = 23) (hone : cs.all (·.oneCell') = true) (v6 : Bool) (h0 : cs[0]? = some (.bool v6)) (A P : Option Addr) (c d : Nat) (xs ps : List UInt8) (w : World)
    (hx : IsB w w.heap.size A xs.length xs) (hp : IsB w w.heap.size P ps.length ps) (hc : xs.length ≤ c) (hcm : c ≤ maxLen)
    (K1 : Nat) (ty cd wd : Int) (ds : List UInt8) (hP : Icmp.ParseIs xs (aheadP v6 ps) K1 ty cd wd ds) (K2 : Nat) (pr : Int) (sv : Bool) (sh sl : Int) (dv : Bool) (dh dl sp dp : Int) (hQ : Icmp.QuotedIs v6 ty ds K2 pr sv sh sl dv dh dl sp dp) :
    Calls Try.prog 96 #[.agg cs, .slice A xs.length c, .slice P ps.length d] w fun e w' => QuoteEnd K1 K2 (.agg (errA cs (tuA pr dv dh dl sv sh sl dp sp))) w w' e := by
  obtain ⟨ps', hps'⟩ : ∃ ps', aheadP v6 ps = ps' := ⟨_, rfl⟩
  rw [hps'] at hP
  obtain ⟨P', d', hp', hv1, hv0⟩ : ∃ P' d', IsB w w.heap.size P' ps'.length ps' ∧ (v6 = true → P' = P ∧ d' = d ∧ ps'.length = ps.length) ∧ (v6 = false → P' = none ∧ d' = 0 ∧ ps'.length = 0) := by
    subst hps'
    unfold aheadP
    rcases v6 with _ | _
    · exact ⟨none, 0, IsB.nil _ _ _, (fun h => by cases h), fun _ => ⟨rfl, rfl, rfl⟩⟩
    · exact ⟨P, d, hp, (fun _ => ⟨rfl, rfl, rfl⟩), fun h => by cases h⟩
  obtain ⟨n, hn⟩ : ∃ n, xs.length = n := ⟨_, rfl⟩
  obtain ⟨zs, hzs⟩ : ∃ zs, pkZ = zs := ⟨_, rfl⟩
  obtain ⟨w2, hw2, hb2, hg0, hg1, hz2⟩ := made_two w cs pkZ 58 58
  unfold pkZ at hw2
  rw [hzs] at hg1
  have hzz : zs.size = 23 := hzs ▸ pkZ_size
  have hzo : zs.all (·.oneCell') = true := hzs ▸ pkZ_one
  have hPc := hP A P' c d' w2 (hx.on hb2) (hp'.on hb2) hc hcm
  have hcg := (blk_cell hg0 0).trans h0
  rw [hn] at hPc ⊢
  replace hx := hide hx
  replace hp := hide hp
  replace hp' := hide hp'
  replace hg0 := hide hg0
  replace hg1 := hide hg1
  replace hb2 := hide hb2
  replace hPc := hide hPc
  replace hP := hide hP
  replace hQ := hide hQ
  replace hps' := hide hps'
  replace hone := hide hone
  replace hzs := hide hzs
  replace hzo := hide hzo
  replace h0 := hide h0
  go_enter Try.func96, Try.ntmps96
  go_upto_if 13 with fail
  clear hw2
  go_cut [2] (fun pv wx => pv = .slice P' ps'.length d' ∧ w2 = wx)
  case first =>
    rcases v6 with _ | _
    · obtain ⟨rfl, rfl, h3⟩ := hv0 rfl
      clear hv0 hv1
      go_wp2_with fail
      go_meet
      exact ⟨by rw [h3], rfl⟩
    · obtain ⟨rfl, rfl, h3⟩ := hv1 rfl
      clear hv0 hv1
      go_wp2_with fail
      go_meet
      exact ⟨by rw [h3], rfl⟩
  case rest =>
  obtain ⟨rfl, rfl⟩ := hcut
  clear hv0 hv1 hcg
  go_wp2_with fail
  refine hPc.out.mono ?_
  rintro e w3 ⟨A3, c3, rfl, hi3, hc3, hm3, hb3⟩
  obtain ⟨w4, hw4⟩ : ∃ w4, w3.alloc (.cells #[.int .i64 ty, .int .i64 cd, .int .u32 wd, .slice A3 ds.length c3] 100) = w4 := ⟨_, rfl⟩
  have z3 := hb3.size
  have hb34 : Below w3.heap.size w3 w4 := hw4 ▸ (Below.refl _ _).alloc (Nat.le_refl _) _
  have hgm : w4.heap[w3.heap.size]? = some (.cells #[.int .i64 ty, .int .i64 cd, .int .u32 wd, .slice A3 ds.length c3] 100 (0, 0)) := hw4 ▸ blk_new _ _ _
  have hz4 : w3.heap.size < w4.heap.size := by rw [← hw4]; simp
  have hB4 := (hb2.out.trans (hb3.mono (by omega))).trans (hb34.mono (by omega))
  have hg04 := blk_below hb34 (by omega) (blk_below hb3 (by omega) hg0.out)
  have hg14 := blk_below hb34 (by omega) (blk_below hb3 (by omega) hg1.out)
  have hi4 := hi3.on hb34
  clear hb3 hb34 hi3
  by_cases hK1 : K1 = 0
  case neg =>
    have t1 : ((K1 : Int) == 0) = false := by rw [beq_eq_false_iff_ne]; omega
    replace hgm := hide hgm
    replace hg04 := hide hg04
    replace hg14 := hide hg14
    replace hi4 := hide hi4
    replace hB4 := hide hB4
    go_upto_region 5 with fail
    clear hw4
    apply wp_region_lit
    refine wpList_plain rfl fun K hK => ?_
    go_simp
    refine hK _ _ ?_
    clear hK K
    refine wpList_plain rfl fun K hK => ?_
    go_simp
    refine hK _ _ ?_
    clear hK K
    refine wpl_st rfl 58 (.tmp 6) (.tmp 22) rfl (w.heap.size + 1) 0 rfl pkZ rfl hg14.out (by rw [hzz, pkZ_size]; omega) size_pk pkZ_one fun w9 hg9 g9 => ?_
    rw [putA_whole _ _ (by rw [hzz, pkZ_size])] at hg9
    have hB9 := hB4.out.trans (below_grown g9 (by omega) (by omega))
    have hld : (loadVar 58 ⟨w.heap.size + 1, 0, none⟩).run Try.prog w9 = .ok (.agg pkZ) w9 := by
      simpa using run_loadVar_mid w9 (w.heap.size + 1) 0 58 pkZ.toList _ (blk_range hg9) Try.underlying58 rfl (by rw [size_pk]; rfl)
    have hfin : QuoteEnd K1 K2 (.agg (errA cs (tuA pr dv dh dl sv sh sl dp sp))) w w9 (.returned (.tuple #[.agg pkZ, .int .i64 (K1 : Int)])) := ⟨⟨fun _ => rfl, fun h => absurd h hK1, fun h => absurd h hK1⟩, hB9⟩
    clear g9
    replace hg9 := hide hg9
    replace hB9 := hide hB9
    replace hfin := hide hfin
    replace hld := hide hld
    refine wpList_plain rfl fun K hK => ?_
    go_simp
    refine hK _ _ ?_
    clear hK K
    refine wpList_nil ?_
    go_wp2_with fail
    exact bodyPost_ret (v := .tuple #[.agg pkZ, .int .i64 (K1 : Int)]) (by simp [results, Try.results96, asAddr, hld.out, Result.andThen]) rfl hfin.out
  subst hK1
  have hcm4 := blk_cell hgm
  have hc04 := (blk_cell hg04 0).trans h0.out
  have hQc := hQ.out cd wd A3 c3 w4 hi4 hc3 hm3
  replace hgm := hide hgm
  replace hg04 := hide hg04
  replace hg14 := hide hg14
  replace hi4 := hide hi4
  replace hB4 := hide hB4
  replace hQc := hide hQc
  go_wp2_with fail
  refine hQc.out.mono ?_
  rintro e w5 ⟨rfl, hb5⟩
  clear hw4 hcm4 hc04
  obtain ⟨w6, hw6⟩ : ∃ w6, w5.alloc (.cells #[.int .i64 pr, .bool sv, .int .u64 sh, .int .u64 sl, .bool dv, .int .u64 dh, .int .u64 dl, .int .i64 sp, .int .i64 dp] 56) = w6 := ⟨_, rfl⟩
  have z5 := hb5.size
  have hb56 : Below w5.heap.size w5 w6 := hw6 ▸ (Below.refl _ _).alloc (Nat.le_refl _) _
  have hgt : w6.heap[w5.heap.size]? = some (.cells #[.int .i64 pr, .bool sv, .int .u64 sh, .int .u64 sl, .bool dv, .int .u64 dh, .int .u64 dl, .int .i64 sp, .int .i64 dp] 56 (0, 0)) := hw6 ▸ blk_new _ _ _
  have hz6 : w5.heap.size < w6.heap.size := by rw [← hw6]; simp
  have hB6 := (hB4.out.trans (hb5.mono (by omega))).trans (hb56.mono (by omega))
  have hg06 := blk_below hb56 (by omega) (blk_below hb5 (by omega) hg04.out)
  have hg16 := blk_below hb56 (by omega) (blk_below hb5 (by omega) hg14.out)
  clear hb5 hb56
  by_cases hK2 : K2 = 0
  case neg =>
    have t1 : ((K2 : Int) == 0) = false := by rw [beq_eq_false_iff_ne]; omega
    replace hgt := hide hgt
    replace hg06 := hide hg06
    replace hg16 := hide hg16
    replace hB6 := hide hB6
    go_upto_region 8 with fail
    clear hw6
    apply wp_region_lit
    refine wpList_plain rfl fun K hK => ?_
    go_simp
    refine hK _ _ ?_
    clear hK K
    refine wpList_plain rfl fun K hK => ?_
    go_simp
    refine hK _ _ ?_
    clear hK K
    refine wpl_st rfl 58 (.tmp 6) (.tmp 33) rfl (w.heap.size + 1) 0 rfl pkZ rfl hg16.out (by rw [hzz, pkZ_size]; omega) size_pk pkZ_one fun w9 hg9 g9 => ?_
    rw [putA_whole _ _ (by rw [hzz, pkZ_size])] at hg9
    have hB9 := hB6.out.trans (below_grown g9 (by omega) (by omega))
    have hld : (loadVar 58 ⟨w.heap.size + 1, 0, none⟩).run Try.prog w9 = .ok (.agg pkZ) w9 := by
      simpa using run_loadVar_mid w9 (w.heap.size + 1) 0 58 pkZ.toList _ (blk_range hg9) Try.underlying58 rfl (by rw [size_pk]; rfl)
    have hfin : QuoteEnd 0 K2 (.agg (errA cs (tuA pr dv dh dl sv sh sl dp sp))) w w9 (.returned (.tuple #[.agg pkZ, .int .i64 (K2 : Int)])) := ⟨⟨fun h => absurd rfl h, fun _ _ => rfl, fun _ h => absurd h hK2⟩, hB9⟩
    clear g9
    replace hg9 := hide hg9
    replace hB9 := hide hB9
    replace hfin := hide hfin
    replace hld := hide hld
    refine wpList_plain rfl fun K hK => ?_
    go_simp
    refine hK _ _ ?_
    clear hK K
    refine wpList_nil ?_
    go_wp2_with fail
    exact bodyPost_ret (v := .tuple #[.agg pkZ, .int .i64 (K2 : Int)]) (by simp [results, Try.results96, asAddr, hld.out, Result.andThen]) rfl hfin.out
  subst hK2
  have hBk := Icmp.back_of pr sp dp sv dv sh sl dh dl w6
  have hct := blk_cell hgt
  replace hgt := hide hgt
  replace hg06 := hide hg06
  replace hg16 := hide hg16
  replace hB6 := hide hB6
  replace hBk := hide hBk
  go_wp2_with fail
  refine hBk.out.mono ?_
  rintro e w7 ⟨rfl, hb7⟩
  clear hw6 hct
  have z7 := hb7.size
  have hB7 := hB6.out.trans (hb7.mono (by omega))
  have hg07 := blk_below hb7 (by omega) hg06.out
  have hg17 := blk_below hb7 (by omega) hg16.out
  clear hb7
  have hc12 : ∃ x, cs[12]? = some x := ⟨_, Array.getElem?_eq_getElem (by omega)⟩
  obtain ⟨x12, hx12⟩ := hc12
  have hcl := (blk_cell hg07 12).trans hx12
  have hfr := blk_free hg07 12
  obtain ⟨w8, e8, hg08, g8⟩ := store_cell hg07 12 (.bool true)
  have z8 := g8.size
  have hB8 := hB7.trans (below_grown g8 (by omega) (by omega))
  have hg18 := grown_other g8 (by omega) (by omega) hg17
  clear g8 hx12
  replace hg07 := hide hg07
  replace hg17 := hide hg17
  replace hg08 := hide hg08
  replace hg18 := hide hg18
  replace hB7 := hide hB7
  replace hB8 := hide hB8
  dsimp only
  rename_i hK0
  refine hK0 _ _ ?_
  clear hK0
  refine wpList_plain rfl fun K hK => ?_
  go_simp
  refine hK _ _ ?_
  clear hK K
  refine wpList_plain rfl fun K hK => ?_
  go_simp
  refine hK _ _ ?_
  clear hK K
  refine wpList_plain rfl fun K hK => ?_
  go_simp
  refine hK _ _ ?_
  clear hK K
  clear hcl hfr e8
  refine wpl_st rfl 56 (.tmp 38) (.tmp 36) rfl w.heap.size 13 rfl (tuA pr dv dh dl sv sh sl dp sp) rfl hg08.out (by rw [Array.size_setIfInBounds, hcs]; exact (show 13 + 9 ≤ 23 by omega)) size_tu (tuA_one _ _ _ _ _ _ _ _ _) fun w9 hg9 g9 => ?_
  have z9 := g9.size
  have hg19 := grown_other g9 (by omega) (by omega) hg18.out
  have hB9 := hB8.out.trans (below_grown g9 (by omega) (by omega))
  obtain ⟨cs2, hcs2⟩ : ∃ cs2, putA (cs.setIfInBounds 12 (.bool true)) 13 (tuA pr dv dh dl sv sh sl dp sp).toList = cs2 := ⟨_, rfl⟩
  have hs2 : cs2.size = 23 := by
    rw [← hcs2, putA_size _ _ _ (by rw [Array.size_setIfInBounds, hcs]; exact (show 13 + 9 ≤ 23 by omega)), Array.size_setIfInBounds, hcs]
  have ho2 : cs2.all (·.oneCell') = true := by
    rw [← hcs2]
    refine all_put ?_ ?_
    · refine Array.all_eq_true_iff_forall_mem.2 fun v hv => ?_
      rcases Array.mem_or_eq_of_mem_setIfInBounds hv with h | h
      · exact Array.all_eq_true_iff_forall_mem.1 hone.out v h
      · rw [h]; rfl
    · have := tuA_one pr dv dh dl sv sh sl dp sp
      simpa using this
  rw [hcs2] at hg9
  clear g9
  replace hg9 := hide hg9
  replace hg19 := hide hg19
  replace hB9 := hide hB9
  replace hcs2 := hide hcs2
  replace ho2 := hide ho2
  refine wpList_nil ?_
  go_upto_region 10 with fail
  apply wp_region_lit
  refine wpl_ld rfl 58 (.tmp 3) rfl w.heap.size rfl cs2 _ hg9.out Try.underlying58 rfl (by rw [size_pk, hs2]) ?_
  refine wpl_st rfl 58 (.tmp 6) (.tmp 39) rfl (w.heap.size + 1) 0 rfl cs2 rfl hg19.out (by rw [hzz, hs2]; omega) (by rw [size_pk, hs2]) ho2.out fun w10 hg10 g10 => ?_
  rw [putA_whole _ _ (by rw [hzz, hs2])] at hg10
  have hB10 := hB9.out.trans (below_grown g10 (by omega) (by omega))
  have hld : (loadVar 58 ⟨w.heap.size + 1, 0, none⟩).run Try.prog w10 = .ok (.agg cs2) w10 := by
    simpa using run_loadVar_mid w10 (w.heap.size + 1) 0 58 cs2.toList _ (blk_range hg10) Try.underlying58 rfl (by rw [size_pk, Array.length_toList, hs2])
  have hfin : QuoteEnd 0 0 (.agg (errA cs (tuA pr dv dh dl sv sh sl dp sp))) w w10 (.returned (.tuple #[.agg cs2, .int .i64 0])) := ⟨⟨fun h => absurd rfl h, fun _ h => absurd rfl h, fun _ _ => by unfold errA; rw [hcs2.out]⟩, hB10⟩
  clear g10
  replace hg10 := hide hg10
  replace hB10 := hide hB10
  replace hfin := hide hfin
  replace hld := hide hld
  refine wpList_plain rfl fun K hK => ?_
  go_simp
  refine hK _ _ ?_
  clear hK K
  refine wpList_nil ?_
  go_wp2_with fail
  exact bodyPost_ret (v := .tuple #[.agg cs2, .int .i64 0]) (by simp [results, Try.results96, asAddr, hld.out, Result.andThen]) rfl hfin.out
end Pkt
end Go.Proofs.Ytdmgbngdpjcliaa
/- pkt.Packet's upper, by contract: what is behind a packet's header. Conditions: a packet of 23 cells, slices of bytes that read as lists. -/
namespace Go.Proofs.Ytdmgbngdpjcliaa
open Go.RowKit Go.ChangeShapes Go.WideShapes Go.ChangeAt Go.Deep
namespace Pkt
/-- How a packet is told: why it is none, or what it is. -/
def End2 (K : Nat) (y : Array Value) (w w' : World) (e : Ending) : Prop := e = .returned (.tuple #[.agg (if K = 0 then y else pkZ), .int .i64 (K : Int)]) ∧ Below w.heap.size w w'
theorem end_bad {y : Array Value} (K : Nat) (hK : K ≠ 0) {w w' : World} (hb : Below w.heap.size w w') : End2 K y w w' (.returned (.tuple #[.agg pkZ, .int .i64 (K : Int)])) := ⟨by rw [if_neg hK], hb⟩
theorem end_good {y : Array Value} {w w' : World} (hb : Below w.heap.size w w') : End2 0 y w w' (.returned (.tuple #[.agg y, .int .i64 0])) := ⟨by rw [if_pos rfl]; rfl, hb⟩
theorem one_set {cs : Array Value} (h : cs.all (·.oneCell') = true) {v : Value} (i : Nat) (hv : v.oneCell' = true) : (cs.setIfInBounds i v).all (·.oneCell') = true := by
  refine Array.all_eq_true_iff_forall_mem.2 fun u hu => ?_
  rcases Array.mem_or_eq_of_mem_setIfInBounds hu with h1 | h1
  · exact Array.all_eq_true_iff_forall_mem.1 h u h1
  · rw [h1]; exact hv
theorem keptS_grown1 {S g : Nat} {w w' : World} (h : w.grownBy w' (some g)) (hS : S ≤ w.heap.size) {q : Nat} (hg : g = q) : KeptS S (fun k => k = q) w w' :=
  ⟨h.os, h.tape, h.output, h.size, fun k hk hne => h.block k (by omega) (fun e => by cases e; exact hne hg)⟩
def udpA (cs : Array Value) (sp dp : Nat) : Array Value := (cs.setIfInBounds 8 (.int .i64 (sp : Int))).setIfInBounds 9 (.int .i64 (dp : Int))
def tcpA (cs : Array Value) (sp dp fl : Nat) : Array Value := ((cs.setIfInBounds 8 (.int .i64 (sp : Int))).setIfInBounds 9 (.int .i64 (dp : Int))).setIfInBounds 11 (.int .i64 (fl : Int))
set_option maxRecDepth 20000 in
set_option maxHeartbeats 16000000 in
theorem upper_tcp (cs : Array Value) (hcs : cs.size = 23) (hone : cs.all (·.oneCell') = true) (v6 : Bool) (h0 : cs[0]? = some (.bool v6)) (pr : Int) (h1 : cs[1]? = some (.int .i64 pr)) (errs : Int) (A P : Option Addr) (c d : Nat) (xs ps : List UInt8) (w : World)
    (hx : IsB w w.heap.size A xs.length xs) (hp : IsB w w.heap.size P ps.length ps) (hc : xs.length ≤ c) (hcm : c ≤ maxLen) (hnm : xs.length ≤ 1099511627776) (hm : ps.length ≤ maxLen) (hpr : pr = 6) (K : Nat) (hK : Tcp.parseK ps xs = K) (y : Array Value) (hy : K = 0 → y = tcpA cs (Tcp.parseS K xs 0) (Tcp.parseS K xs 2) (Tcp.parseF K xs)) :
    Calls Try.prog 85 #[.agg cs, .slice A xs.length c, .slice P ps.length d, .int .i64 errs] w fun e w' => End2 K y w w' e := by
  subst hpr
  obtain ⟨n, hn⟩ : ∃ n, xs.length = n := ⟨_, rfl⟩
  obtain ⟨pn, hpn⟩ : ∃ n, ps.length = n := ⟨_, rfl⟩
  obtain ⟨zs, hzs⟩ : ∃ zs, pkZ = zs := ⟨_, rfl⟩
  obtain ⟨w2, hw2, hb2, hg0, hg1, hz2⟩ := made_two w cs pkZ 58 58
  unfold pkZ at hw2
  rw [hzs] at hg1
  have hzz : zs.size = 23 := hzs ▸ pkZ_size
  have hcg0 := (blk_cell hg0 0).trans h0
  have hcg1 := (blk_cell hg0 1).trans h1
  have z0 : True := trivial
  rw [hn, hpn]
  replace hx := hide hx
  replace hp := hide hp
  replace hg0 := hide hg0
  replace hg1 := hide hg1
  replace hb2 := hide hb2
  replace hone := hide hone
  replace hzs := hide hzs
  replace h0 := hide h0
  replace h1 := hide h1
  replace hK := hide hK
  replace hy := hide hy
  go_enter Try.func85, Try.ntmps85
  have hTc := Tcp.parse_any A P xs.length c ps.length d xs ps w2 (hx.out.on hb2.out) (hp.out.on hb2.out) hc hcm hnm hm K hK.out
  rw [hn, hpn] at hTc
  replace hTc := hide hTc
  go_wp2_with fail
  refine hTc.out.mono ?_
  rintro e w3 ⟨sq, ak, wn, ug, A3, n3, c3, A4, n4, c4, rfl, hb3⟩
  clear hcg0 hcg1
  obtain ⟨s0, hs0⟩ : ∃ s, Tcp.parseS K xs 0 = s := ⟨_, rfl⟩
  obtain ⟨s2, hs2⟩ : ∃ s, Tcp.parseS K xs 2 = s := ⟨_, rfl⟩
  obtain ⟨fl, hfl⟩ : ∃ s, Tcp.parseF K xs = s := ⟨_, rfl⟩
  rw [hs0, hs2, hfl] at hy
  rw [hs0, hs2, hfl]
  replace hy := hide hy
  replace hs0 := hide hs0
  replace hs2 := hide hs2
  replace hfl := hide hfl
  obtain ⟨w4, hw4⟩ : ∃ w4, w3.alloc (.cells #[.int .i64 (s0 : Int), .int .i64 (s2 : Int), .int .u32 sq, .int .u32 ak, .int .i64 (fl : Int), .int .i64 wn, .int .i64 ug, .slice A3 n3 c3] 92) = w4 := ⟨_, rfl⟩
  have z3 := hb3.size
  have hb34 : Below w3.heap.size w3 w4 := hw4 ▸ (Below.refl _ _).alloc (Nat.le_refl _) _
  have hgm : w4.heap[w3.heap.size]? = some (.cells #[.int .i64 (s0 : Int), .int .i64 (s2 : Int), .int .u32 sq, .int .u32 ak, .int .i64 (fl : Int), .int .i64 wn, .int .i64 ug, .slice A3 n3 c3] 92 (0, 0)) := hw4 ▸ blk_new _ _ _
  have hz4 : w3.heap.size < w4.heap.size := by rw [← hw4]; simp
  have hB4 := (hb2.out.trans (hb3.mono (by omega))).trans (hb34.mono (by omega))
  have hg04 := blk_below hb34 (by omega) (blk_below hb3 (by omega) hg0.out)
  have hg14 := blk_below hb34 (by omega) (blk_below hb3 (by omega) hg1.out)
  clear hb3 hb34
  replace hgm := hide hgm
  replace hg04 := hide hg04
  replace hg14 := hide hg14
  replace hB4 := hide hB4
  by_cases hK0 : K = 0
  case neg =>
    have t3 : ((K : Int) == 0) = false := by rw [beq_eq_false_iff_ne]; omega
    go_upto_region 6 with fail
    apply wp_region_lit
    refine wpList_plain rfl fun K hK => ?_
    go_simp
    refine hK _ _ ?_
    clear hK K
    refine wpList_plain rfl fun K hK => ?_
    go_simp
    refine hK _ _ ?_
    clear hK K
    refine wpl_st rfl 58 (.tmp 8) (.tmp 31) rfl (w.heap.size + 1) 0 rfl pkZ rfl hg14.out (by rw [hzz, pkZ_size]; omega) size_pk pkZ_one fun w9 hg9 g9 => ?_
    rw [putA_whole _ _ (by rw [hzz, pkZ_size])] at hg9
    have hB9 := hB4.out.trans (below_grown g9 (by omega) (by omega))
    have hld : (loadVar 58 ⟨w.heap.size + 1, 0, none⟩).run Try.prog w9 = .ok (.agg pkZ) w9 := by
      simpa using run_loadVar_mid w9 (w.heap.size + 1) 0 58 pkZ.toList _ (blk_range hg9) Try.underlying58 rfl (by rw [size_pk, Array.length_toList, pkZ_size])
    have hfin := end_bad (y := y) (K : Nat) hK0 hB9
    clear g9
    replace hg9 := hide hg9
    replace hB9 := hide hB9
    replace hfin := hide hfin
    replace hld := hide hld
    refine wpList_plain rfl fun K hK => ?_
    go_simp
    refine hK _ _ ?_
    clear hK K
    refine wpList_nil ?_
    go_wp2_with fail
    exact bodyPost_ret (v := .tuple #[.agg pkZ, .int .i64 (K : Int)]) (by simp [results, Try.results85, asAddr, hld.out, Result.andThen]) rfl hfin.out
  subst hK0
  go_upto_region 7 with fail
  clear hw4
  refine wp_region_S w4.heap.size (fun k => k = w.heap.size) (by as_aux_lemma => kernel_rfl) ?_
  intro wd hbd
  have zd := hbd.size
  have hgmd := blk_below hbd (by omega) hgm.out
  have hg0d := blk_below hbd (by omega) hg04.out
  have hg1d := blk_below hbd (by omega) hg14.out
  have hBd := hB4.out.trans (hbd.mono (by omega))
  have hcl := fun (l : KeptSW w4.heap.size (fun k => k = w.heap.size) wd) (o : Nat) => blk_cell (l.blk hgmd (by omega) (by omega)) o
  replace hgmd := hide hgmd
  replace hg0d := hide hg0d
  replace hg1d := hide hg1d
  replace hBd := hide hBd
  replace hbd := hide hbd
  refine wpS_seg w4.heap.size (fun k => k = w.heap.size) 0 8 (fuel := 6) (by as_aux_lemma => kernel_rfl) (fun d _ _ _ _ h => by cases d <;> exact h) (by as_aux_lemma => kernel_rfl) (by as_aux_lemma => kernel_rfl) ?_
  simp only [List.drop_zero, List.take_succ_cons, List.take_zero]
  iterate 8 (refine wpQS_step (fun K hK => ?_); go_simp; refine hK _ ?_; clear hK K)
  refine wpQF_nil ?_
  obtain ⟨x1, hx1⟩ : ∃ x, cs[8]? = some x := ⟨_, Array.getElem?_eq_getElem (by omega)⟩
  have hcx := (blk_cell hg0d.out 8).trans hx1
  have hfx := blk_free hg0d.out 8
  obtain ⟨wq1, eq1, hq1, gq1⟩ := store_cell hg0d.out 8 (.int .i64 (s0 : Int))
  obtain ⟨cs1, hc1⟩ : ∃ x, cs.setIfInBounds 8 (.int .i64 (s0 : Int)) = x := ⟨_, rfl⟩
  rw [hc1] at hq1
  have hs1 : cs1.size = 23 := by rw [← hc1, Array.size_setIfInBounds, hcs]
  have ho1 : cs1.all (·.oneCell') = true := by rw [← hc1]; exact one_set hone.out _ rfl
  have zq1 := gq1.size
  have h1q1 := grown_other gq1 (by omega) (by omega) hg1d.out
  have hBq1 := hBd.out.trans (below_grown gq1 (by omega) (by omega))
  clear hx1
  replace hq1 := hide hq1
  replace hc1 := hide hc1
  replace ho1 := hide ho1
  replace h1q1 := hide h1q1
  replace hBq1 := hide hBq1
  refine wpF_step 8 rfl (by as_aux_lemma => kernel_rfl) (fun K hK => ?_)
  go_simp
  refine hK _ _ (keptS_grown1 gq1 (by omega) rfl) ?_
  clear hK K hcx hfx eq1 gq1
  refine wpS_seg w4.heap.size (fun k => k = w.heap.size) 9 2 (fuel := 3) (by as_aux_lemma => kernel_rfl) (fun d _ _ _ _ h => by cases d <;> exact h) (by as_aux_lemma => kernel_rfl) (by as_aux_lemma => kernel_rfl) ?_
  simp only [List.drop_succ_cons, List.drop_zero, List.take_succ_cons, List.take_zero]
  iterate 2 (refine wpQS_step (fun K hK => ?_); go_simp; refine hK _ ?_; clear hK K)
  refine wpQF_nil ?_
  obtain ⟨x2, hx2⟩ : ∃ x, cs1[9]? = some x := ⟨_, Array.getElem?_eq_getElem (by omega)⟩
  have hcx := (blk_cell hq1.out 9).trans hx2
  have hfx := blk_free hq1.out 9
  obtain ⟨wq2, eq2, hq2, gq2⟩ := store_cell hq1.out 9 (.int .i64 (s2 : Int))
  obtain ⟨cs2, hc2⟩ : ∃ x, cs1.setIfInBounds 9 (.int .i64 (s2 : Int)) = x := ⟨_, rfl⟩
  rw [hc2] at hq2
  have hs2 : cs2.size = 23 := by rw [← hc2, Array.size_setIfInBounds, hs1]
  have ho2 : cs2.all (·.oneCell') = true := by rw [← hc2]; exact one_set ho1.out _ rfl
  have zq2 := gq2.size
  have h1q2 := grown_other gq2 (by omega) (by omega) h1q1.out
  have hBq2 := hBq1.out.trans (below_grown gq2 (by omega) (by omega))
  clear hx2
  replace hq2 := hide hq2
  replace hc2 := hide hc2
  replace ho2 := hide ho2
  replace h1q2 := hide h1q2
  replace hBq2 := hide hBq2
  refine wpF_step 11 rfl (by as_aux_lemma => kernel_rfl) (fun K hK => ?_)
  go_simp
  refine hK _ _ (keptS_grown1 gq2 (by omega) rfl) ?_
  clear hK K hcx hfx eq2 gq2
  refine wpS_seg w4.heap.size (fun k => k = w.heap.size) 12 1 (fuel := 1) (by as_aux_lemma => kernel_rfl) (fun d _ _ _ _ h => by cases d <;> exact h) (by as_aux_lemma => kernel_rfl) (by as_aux_lemma => kernel_rfl) ?_
  simp only [List.drop_succ_cons, List.drop_zero, List.take_succ_cons, List.take_zero]
  iterate 1 (refine wpQS_step (fun K hK => ?_); go_simp; refine hK _ ?_; clear hK K)
  refine wpQF_nil ?_
  obtain ⟨x3, hx3⟩ : ∃ x, cs2[11]? = some x := ⟨_, Array.getElem?_eq_getElem (by omega)⟩
  have hcx := (blk_cell hq2.out 11).trans hx3
  have hfx := blk_free hq2.out 11
  obtain ⟨wq3, eq3, hq3, gq3⟩ := store_cell hq2.out 11 (.int .i64 (fl : Int))
  obtain ⟨cs3, hc3⟩ : ∃ x, cs2.setIfInBounds 11 (.int .i64 (fl : Int)) = x := ⟨_, rfl⟩
  rw [hc3] at hq3
  have hs3 : cs3.size = 23 := by rw [← hc3, Array.size_setIfInBounds, hs2]
  have ho3 : cs3.all (·.oneCell') = true := by rw [← hc3]; exact one_set ho2.out _ rfl
  have zq3 := gq3.size
  have h1q3 := grown_other gq3 (by omega) (by omega) h1q2.out
  have hBq3 := hBq2.out.trans (below_grown gq3 (by omega) (by omega))
  clear hx3
  replace hq3 := hide hq3
  replace hc3 := hide hc3
  replace ho3 := hide ho3
  replace h1q3 := hide h1q3
  replace hBq3 := hide hBq3
  refine wpF_step 13 rfl (by as_aux_lemma => kernel_rfl) (fun K hK => ?_)
  go_simp
  refine hK _ _ (keptS_grown1 gq3 (by omega) rfl) ?_
  clear hK K hcx hfx eq3 gq3
  refine wpF_done (by as_aux_lemma => kernel_rfl) ?_ 0
  have hy7 : y = cs3 := by
    have h9 := hy.out (by simp)
    unfold tcpA at h9
    rw [hc1.out, hc2.out, hc3.out] at h9
    exact h9
  subst hy7
  have hg7 := hq3.out
  have hg17 := h1q3.out
  have hB7 := hBq3.out
  have hs7 := hs3
  have ho7 := ho3.out
  clear hcl
  replace hg7 := hide hg7
  replace hg17 := hide hg17
  replace hB7 := hide hB7
  replace ho7 := hide ho7
  go_upto_region 15 with fail
  apply wp_region_lit
  refine wpl_ld rfl 58 (.tmp 4) rfl w.heap.size rfl y _ hg7.out Try.underlying58 rfl (by rw [size_pk, hs7]) ?_
  refine wpl_st rfl 58 (.tmp 8) (.tmp 77) rfl (w.heap.size + 1) 0 rfl y rfl hg17.out (by rw [hzz, hs7]; omega) (by rw [size_pk, hs7]) ho7.out fun w9 hg9 g9 => ?_
  rw [putA_whole _ _ (by rw [hzz, hs7])] at hg9
  have hB9 := hB7.out.trans (below_grown g9 (by omega) (by omega))
  have hld : (loadVar 58 ⟨w.heap.size + 1, 0, none⟩).run Try.prog w9 = .ok (.agg y) w9 := by
    simpa using run_loadVar_mid w9 (w.heap.size + 1) 0 58 y.toList _ (blk_range hg9) Try.underlying58 rfl (by rw [size_pk, Array.length_toList, hs7])
  have hfin := end_good (y := y) hB9
  clear g9
  replace hg9 := hide hg9
  replace hB9 := hide hB9
  replace hfin := hide hfin
  replace hld := hide hld
  refine wpList_plain rfl fun K hK => ?_
  go_simp
  refine hK _ _ ?_
  clear hK K
  refine wpList_nil ?_
  go_wp2_with fail
  exact bodyPost_ret (v := .tuple #[.agg y, .int .i64 0]) (by simp [results, Try.results85, asAddr, hld.out, Result.andThen]) rfl hfin.out
set_option maxRecDepth 20000 in
set_option maxHeartbeats 16000000 in
theorem upper_udp (cs : Array Value) (hcs : cs.size = 23) (hone : cs.all (·.oneCell') = true) (v6 : Bool) (h0 : cs[0]? = some (.bool v6)) (pr : Int) (h1 : cs[1]? = some (.int .i64 pr)) (errs : Int) (A P : Option Addr) (c d : Nat) (xs ps : List UInt8) (w : World)
    (hx : IsB w w.heap.size A xs.length xs) (hp : IsB w w.heap.size P ps.length ps) (hc : xs.length ≤ c) (hcm : c ≤ maxLen) (hnm : xs.length ≤ 1099511627776) (hm : ps.length ≤ maxLen) (hpr : pr = 17) (K : Nat) (hK : Udp.parseK (!v6) ps xs = K) (y : Array Value) (hy : K = 0 → y = udpA cs (Udp.parseS K xs 0) (Udp.parseS K xs 2)) :
    Calls Try.prog 85 #[.agg cs, .slice A xs.length c, .slice P ps.length d, .int .i64 errs] w fun e w' => End2 K y w w' e := by
  subst hpr
  obtain ⟨n, hn⟩ : ∃ n, xs.length = n := ⟨_, rfl⟩
  obtain ⟨pn, hpn⟩ : ∃ n, ps.length = n := ⟨_, rfl⟩
  obtain ⟨zs, hzs⟩ : ∃ zs, pkZ = zs := ⟨_, rfl⟩
  obtain ⟨w2, hw2, hb2, hg0, hg1, hz2⟩ := made_two w cs pkZ 58 58
  unfold pkZ at hw2
  rw [hzs] at hg1
  have hzz : zs.size = 23 := hzs ▸ pkZ_size
  have hcg0 := (blk_cell hg0 0).trans h0
  have hcg1 := (blk_cell hg0 1).trans h1
  have z0 : True := trivial
  rw [hn, hpn]
  replace hx := hide hx
  replace hp := hide hp
  replace hg0 := hide hg0
  replace hg1 := hide hg1
  replace hb2 := hide hb2
  replace hone := hide hone
  replace hzs := hide hzs
  replace h0 := hide h0
  replace h1 := hide h1
  replace hK := hide hK
  replace hy := hide hy
  go_enter Try.func85, Try.ntmps85
  have hTc := Udp.parse_any A P xs.length c ps.length d xs ps (!v6) w2 (hx.out.on hb2.out) (hp.out.on hb2.out) hc hcm hnm hm K hK.out
  rw [hn, hpn] at hTc
  replace hTc := hide hTc
  go_wp2_with fail
  refine hTc.out.mono ?_
  rintro e w3 ⟨A3, n3, c3, rfl, _, _, _, hb3⟩
  clear hcg0 hcg1
  obtain ⟨s0, hs0⟩ : ∃ s, Udp.parseS K xs 0 = s := ⟨_, rfl⟩
  obtain ⟨s2, hs2⟩ : ∃ s, Udp.parseS K xs 2 = s := ⟨_, rfl⟩
  obtain ⟨bb, hbb⟩ : ∃ s, Udp.parseB K xs = s := ⟨_, rfl⟩
  rw [hs0, hs2] at hy
  rw [hs0, hs2, hbb]
  replace hy := hide hy
  replace hs0 := hide hs0
  replace hs2 := hide hs2
  replace hbb := hide hbb
  obtain ⟨w4, hw4⟩ : ∃ w4, w3.alloc (.cells #[.int .i64 (s0 : Int), .int .i64 (s2 : Int), .bool bb] 96) = w4 := ⟨_, rfl⟩
  have z3 := hb3.size
  have hb34 : Below w3.heap.size w3 w4 := hw4 ▸ (Below.refl _ _).alloc (Nat.le_refl _) _
  have hgm : w4.heap[w3.heap.size]? = some (.cells #[.int .i64 (s0 : Int), .int .i64 (s2 : Int), .bool bb] 96 (0, 0)) := hw4 ▸ blk_new _ _ _
  have hz4 : w3.heap.size < w4.heap.size := by rw [← hw4]; simp
  have hB4 := (hb2.out.trans (hb3.mono (by omega))).trans (hb34.mono (by omega))
  have hg04 := blk_below hb34 (by omega) (blk_below hb3 (by omega) hg0.out)
  have hg14 := blk_below hb34 (by omega) (blk_below hb3 (by omega) hg1.out)
  clear hb3 hb34
  replace hgm := hide hgm
  replace hg04 := hide hg04
  replace hg14 := hide hg14
  replace hB4 := hide hB4
  by_cases hK0 : K = 0
  case neg =>
    have t3 : ((K : Int) == 0) = false := by rw [beq_eq_false_iff_ne]; omega
    go_upto_region 11 with fail
    apply wp_region_lit
    refine wpList_plain rfl fun K hK => ?_
    go_simp
    refine hK _ _ ?_
    clear hK K
    refine wpList_plain rfl fun K hK => ?_
    go_simp
    refine hK _ _ ?_
    clear hK K
    refine wpl_st rfl 58 (.tmp 8) (.tmp 58) rfl (w.heap.size + 1) 0 rfl pkZ rfl hg14.out (by rw [hzz, pkZ_size]; omega) size_pk pkZ_one fun w9 hg9 g9 => ?_
    rw [putA_whole _ _ (by rw [hzz, pkZ_size])] at hg9
    have hB9 := hB4.out.trans (below_grown g9 (by omega) (by omega))
    have hld : (loadVar 58 ⟨w.heap.size + 1, 0, none⟩).run Try.prog w9 = .ok (.agg pkZ) w9 := by
      simpa using run_loadVar_mid w9 (w.heap.size + 1) 0 58 pkZ.toList _ (blk_range hg9) Try.underlying58 rfl (by rw [size_pk, Array.length_toList, pkZ_size])
    have hfin := end_bad (y := y) (K : Nat) hK0 hB9
    clear g9
    replace hg9 := hide hg9
    replace hB9 := hide hB9
    replace hfin := hide hfin
    replace hld := hide hld
    refine wpList_plain rfl fun K hK => ?_
    go_simp
    refine hK _ _ ?_
    clear hK K
    refine wpList_nil ?_
    go_wp2_with fail
    exact bodyPost_ret (v := .tuple #[.agg pkZ, .int .i64 (K : Int)]) (by simp [results, Try.results85, asAddr, hld.out, Result.andThen]) rfl hfin.out
  subst hK0
  go_upto_region 12 with fail
  clear hw4
  refine wp_region_S w4.heap.size (fun k => k = w.heap.size) (by as_aux_lemma => kernel_rfl) ?_
  intro wd hbd
  have zd := hbd.size
  have hgmd := blk_below hbd (by omega) hgm.out
  have hg0d := blk_below hbd (by omega) hg04.out
  have hg1d := blk_below hbd (by omega) hg14.out
  have hBd := hB4.out.trans (hbd.mono (by omega))
  have hcl := fun (l : KeptSW w4.heap.size (fun k => k = w.heap.size) wd) (o : Nat) => blk_cell (l.blk hgmd (by omega) (by omega)) o
  replace hgmd := hide hgmd
  replace hg0d := hide hg0d
  replace hg1d := hide hg1d
  replace hBd := hide hBd
  replace hbd := hide hbd
  refine wpS_seg w4.heap.size (fun k => k = w.heap.size) 0 6 (fuel := 4) (by as_aux_lemma => kernel_rfl) (fun d _ _ _ _ h => by cases d <;> exact h) (by as_aux_lemma => kernel_rfl) (by as_aux_lemma => kernel_rfl) ?_
  simp only [List.drop_zero, List.take_succ_cons, List.take_zero]
  iterate 6 (refine wpQS_step (fun K hK => ?_); go_simp; refine hK _ ?_; clear hK K)
  refine wpQF_nil ?_
  obtain ⟨x1, hx1⟩ : ∃ x, cs[8]? = some x := ⟨_, Array.getElem?_eq_getElem (by omega)⟩
  have hcx := (blk_cell hg0d.out 8).trans hx1
  have hfx := blk_free hg0d.out 8
  obtain ⟨wq1, eq1, hq1, gq1⟩ := store_cell hg0d.out 8 (.int .i64 (s0 : Int))
  obtain ⟨cs1, hc1⟩ : ∃ x, cs.setIfInBounds 8 (.int .i64 (s0 : Int)) = x := ⟨_, rfl⟩
  rw [hc1] at hq1
  have hs1 : cs1.size = 23 := by rw [← hc1, Array.size_setIfInBounds, hcs]
  have ho1 : cs1.all (·.oneCell') = true := by rw [← hc1]; exact one_set hone.out _ rfl
  have zq1 := gq1.size
  have h1q1 := grown_other gq1 (by omega) (by omega) hg1d.out
  have hBq1 := hBd.out.trans (below_grown gq1 (by omega) (by omega))
  clear hx1
  replace hq1 := hide hq1
  replace hc1 := hide hc1
  replace ho1 := hide ho1
  replace h1q1 := hide h1q1
  replace hBq1 := hide hBq1
  refine wpF_step 6 rfl (by as_aux_lemma => kernel_rfl) (fun K hK => ?_)
  go_simp
  refine hK _ _ (keptS_grown1 gq1 (by omega) rfl) ?_
  clear hK K hcx hfx eq1 gq1
  refine wpS_seg w4.heap.size (fun k => k = w.heap.size) 7 2 (fuel := 1) (by as_aux_lemma => kernel_rfl) (fun d _ _ _ _ h => by cases d <;> exact h) (by as_aux_lemma => kernel_rfl) (by as_aux_lemma => kernel_rfl) ?_
  simp only [List.drop_succ_cons, List.drop_zero, List.take_succ_cons, List.take_zero]
  iterate 2 (refine wpQS_step (fun K hK => ?_); go_simp; refine hK _ ?_; clear hK K)
  refine wpQF_nil ?_
  obtain ⟨x2, hx2⟩ : ∃ x, cs1[9]? = some x := ⟨_, Array.getElem?_eq_getElem (by omega)⟩
  have hcx := (blk_cell hq1.out 9).trans hx2
  have hfx := blk_free hq1.out 9
  obtain ⟨wq2, eq2, hq2, gq2⟩ := store_cell hq1.out 9 (.int .i64 (s2 : Int))
  obtain ⟨cs2, hc2⟩ : ∃ x, cs1.setIfInBounds 9 (.int .i64 (s2 : Int)) = x := ⟨_, rfl⟩
  rw [hc2] at hq2
  have hs2 : cs2.size = 23 := by rw [← hc2, Array.size_setIfInBounds, hs1]
  have ho2 : cs2.all (·.oneCell') = true := by rw [← hc2]; exact one_set ho1.out _ rfl
  have zq2 := gq2.size
  have h1q2 := grown_other gq2 (by omega) (by omega) h1q1.out
  have hBq2 := hBq1.out.trans (below_grown gq2 (by omega) (by omega))
  clear hx2
  replace hq2 := hide hq2
  replace hc2 := hide hc2
  replace ho2 := hide ho2
  replace h1q2 := hide h1q2
  replace hBq2 := hide hBq2
  refine wpF_step 9 rfl (by as_aux_lemma => kernel_rfl) (fun K hK => ?_)
  go_simp
  refine hK _ _ (keptS_grown1 gq2 (by omega) rfl) ?_
  clear hK K hcx hfx eq2 gq2
  refine wpF_done (by as_aux_lemma => kernel_rfl) ?_ 0
  have hy7 : y = cs2 := by
    have h9 := hy.out (by simp)
    unfold udpA at h9
    rw [hc1.out, hc2.out] at h9
    exact h9
  subst hy7
  have hg7 := hq2.out
  have hg17 := h1q2.out
  have hB7 := hBq2.out
  have hs7 := hs2
  have ho7 := ho2.out
  clear hcl
  replace hg7 := hide hg7
  replace hg17 := hide hg17
  replace hB7 := hide hB7
  replace ho7 := hide ho7
  go_upto_region 15 with fail
  apply wp_region_lit
  refine wpl_ld rfl 58 (.tmp 4) rfl w.heap.size rfl y _ hg7.out Try.underlying58 rfl (by rw [size_pk, hs7]) ?_
  refine wpl_st rfl 58 (.tmp 8) (.tmp 77) rfl (w.heap.size + 1) 0 rfl y rfl hg17.out (by rw [hzz, hs7]; omega) (by rw [size_pk, hs7]) ho7.out fun w9 hg9 g9 => ?_
  rw [putA_whole _ _ (by rw [hzz, hs7])] at hg9
  have hB9 := hB7.out.trans (below_grown g9 (by omega) (by omega))
  have hld : (loadVar 58 ⟨w.heap.size + 1, 0, none⟩).run Try.prog w9 = .ok (.agg y) w9 := by
    simpa using run_loadVar_mid w9 (w.heap.size + 1) 0 58 y.toList _ (blk_range hg9) Try.underlying58 rfl (by rw [size_pk, Array.length_toList, hs7])
  have hfin := end_good (y := y) hB9
  clear g9
  replace hg9 := hide hg9
  replace hB9 := hide hB9
  replace hfin := hide hfin
  replace hld := hide hld
  refine wpList_plain rfl fun K hK => ?_
  go_simp
  refine hK _ _ ?_
  clear hK K
  refine wpList_nil ?_
  go_wp2_with fail
  exact bodyPost_ret (v := .tuple #[.agg y, .int .i64 0]) (by simp [results, Try.results85, asAddr, hld.out, Result.andThen]) rfl hfin.out
set_option maxRecDepth 20000 in
set_option maxHeartbeats 16000000 in
theorem upper_none (cs : Array Value) (_hcs : cs.size = 23) (hone : cs.all (·.oneCell') = true) (v6 : Bool) (h0 : cs[0]? = some (.bool v6)) (pr : Int) (h1 : cs[1]? = some (.int .i64 pr)) (errs : Int) (A P : Option Addr) (c d : Nat) (xs ps : List UInt8) (w : World)
    (hx : IsB w w.heap.size A xs.length xs) (hp : IsB w w.heap.size P ps.length ps) (_hc : xs.length ≤ c) (_hcm : c ≤ maxLen) (_hnm : xs.length ≤ 1099511627776) (_hm : ps.length ≤ maxLen) (hp6 : pr ≠ 6) (hp17 : pr ≠ 17) (hpe : pr ≠ errs) (y : Array Value) :
    Calls Try.prog 85 #[.agg cs, .slice A xs.length c, .slice P ps.length d, .int .i64 errs] w fun e w' => End2 14 y w w' e := by
  obtain ⟨n, hn⟩ : ∃ n, xs.length = n := ⟨_, rfl⟩
  obtain ⟨pn, hpn⟩ : ∃ n, ps.length = n := ⟨_, rfl⟩
  obtain ⟨zs, hzs⟩ : ∃ zs, pkZ = zs := ⟨_, rfl⟩
  obtain ⟨w2, hw2, hb2, hg0, hg1, hz2⟩ := made_two w cs pkZ 58 58
  unfold pkZ at hw2
  rw [hzs] at hg1
  have hzz : zs.size = 23 := hzs ▸ pkZ_size
  have hcg0 := (blk_cell hg0 0).trans h0
  have hcg1 := (blk_cell hg0 1).trans h1
  have t1 : (pr == 6) = false := by simpa using hp6
  have t2 : (pr == 17) = false := by simpa using hp17
  have t3 : (pr == errs) = false := by simpa using hpe
  rw [hn, hpn]
  clear hp6 hp17 hpe
  replace hx := hide hx
  replace hp := hide hp
  replace hg0 := hide hg0
  replace hg1 := hide hg1
  replace hb2 := hide hb2
  replace hone := hide hone
  replace hzs := hide hzs
  replace h0 := hide h0
  replace h1 := hide h1
  go_enter Try.func85, Try.ntmps85
  go_upto_region 2 with fail
  clear hw2 hcg0 hcg1
  apply wp_region_lit
  refine wpList_plain rfl fun K hK => ?_
  go_simp
  refine hK _ _ ?_
  clear hK K
  refine wpl_st rfl 58 (.tmp 8) (.tmp 19) rfl (w.heap.size + 1) 0 rfl pkZ rfl hg1.out (by rw [hzz, pkZ_size]; omega) size_pk pkZ_one fun w9 hg9 g9 => ?_
  rw [putA_whole _ _ (by rw [hzz, pkZ_size])] at hg9
  have hB9 := hb2.out.trans (below_grown g9 (by omega) (by omega))
  have hld : (loadVar 58 ⟨w.heap.size + 1, 0, none⟩).run Try.prog w9 = .ok (.agg pkZ) w9 := by
    simpa using run_loadVar_mid w9 (w.heap.size + 1) 0 58 pkZ.toList _ (blk_range hg9) Try.underlying58 rfl (by rw [size_pk, Array.length_toList, pkZ_size])
  have hfin := end_bad (y := y) 14 (by omega) hB9
  clear g9
  replace hg9 := hide hg9
  replace hB9 := hide hB9
  replace hfin := hide hfin
  replace hld := hide hld
  refine wpList_plain rfl fun K hK => ?_
  go_simp
  refine hK _ _ ?_
  clear hK K
  refine wpList_nil ?_
  go_wp2_with fail
  exact bodyPost_ret (v := .tuple #[.agg pkZ, .int .i64 (14 : Int)]) (by simp [results, Try.results85, asAddr, hld.out, Result.andThen]) rfl hfin.out
set_option maxRecDepth 20000 in
set_option maxHeartbeats 16000000 in
theorem upper_err (cs : Array Value) (hcs : cs.size = 23) (hone : cs.all (·.oneCell') = true) (v6 : Bool) (h0 : cs[0]? = some (.bool v6)) (pr : Int) (h1 : cs[1]? = some (.int .i64 pr)) (errs : Int) (A P : Option Addr) (c d : Nat) (xs ps : List UInt8) (w : World)
    (hx : IsB w w.heap.size A xs.length xs) (hp : IsB w w.heap.size P ps.length ps) (hc : xs.length ≤ c) (hcm : c ≤ maxLen) (_hnm : xs.length ≤ 1099511627776) (_hm : ps.length ≤ maxLen) (hp6 : pr ≠ 6) (hp17 : pr ≠ 17) (hpe : pr = errs)
    (K1 : Nat) (ty cd wd : Int) (ds : List UInt8) (hP : Icmp.ParseIs xs (aheadP v6 ps) K1 ty cd wd ds) (K2 : Nat) (qr : Int) (sv : Bool) (sh sl : Int) (dv : Bool) (dh dl sp dp : Int) (hQ : Icmp.QuotedIs v6 ty ds K2 qr sv sh sl dv dh dl sp dp) :
    Calls Try.prog 85 #[.agg cs, .slice A xs.length c, .slice P ps.length d, .int .i64 errs] w fun e w' => End2 (if K1 ≠ 0 then K1 else K2) (errA cs (tuA qr dv dh dl sv sh sl dp sp)) w w' e := by
  subst hpe
  obtain ⟨n, hn⟩ : ∃ n, xs.length = n := ⟨_, rfl⟩
  obtain ⟨pn, hpn⟩ : ∃ n, ps.length = n := ⟨_, rfl⟩
  obtain ⟨zs, hzs⟩ : ∃ zs, pkZ = zs := ⟨_, rfl⟩
  obtain ⟨w2, hw2, hb2, hg0, hg1, hz2⟩ := made_two w cs pkZ 58 58
  unfold pkZ at hw2
  rw [hzs] at hg1
  have hzz : zs.size = 23 := hzs ▸ pkZ_size
  have hcg0 := (blk_cell hg0 0).trans h0
  have hcg1 := (blk_cell hg0 1).trans h1
  have t1 : (pr == 6) = false := by simpa using hp6
  have t2 : (pr == 17) = false := by simpa using hp17
  have hQt := quote_any cs hcs hone v6 h0 A P c d xs ps w2 (hx.on hb2) (hp.on hb2) hc hcm K1 ty cd wd ds hP K2 qr sv sh sl dv dh dl sp dp hQ
  rw [hn, hpn] at hQt
  rw [hn, hpn]
  clear hp6 hp17
  obtain ⟨y, hy⟩ : ∃ y, errA cs (tuA qr dv dh dl sv sh sl dp sp) = y := ⟨_, rfl⟩
  rw [hy] at hQt ⊢
  have hys : y.size = 23 := by
    rw [← hy]
    unfold errA
    rw [putA_size _ _ _ (by rw [Array.size_setIfInBounds, hcs]; exact (show 13 + 9 ≤ 23 by omega)), Array.size_setIfInBounds, hcs]
  have hyo : y.all (·.oneCell') = true := by
    rw [← hy]
    exact all_put (one_set hone _ rfl) (by simpa using tuA_one qr dv dh dl sv sh sl dp sp)
  obtain ⟨Kq, hKq⟩ : ∃ Kq, (if K1 ≠ 0 then K1 else K2) = Kq := ⟨_, rfl⟩
  rw [hKq]
  replace hx := hide hx
  replace hp := hide hp
  replace hg0 := hide hg0
  replace hg1 := hide hg1
  replace hb2 := hide hb2
  replace hone := hide hone
  replace hzs := hide hzs
  replace h0 := hide h0
  replace h1 := hide h1
  replace hQt := hide hQt
  replace hy := hide hy
  replace hyo := hide hyo
  replace hKq := hide hKq
  go_enter Try.func85, Try.ntmps85
  go_upto_region 14 with fail
  clear hw2 hcg0 hcg1
  apply wp_region_lit
  refine wpl_ld rfl 58 (.tmp 4) rfl w.heap.size rfl cs _ hg0.out Try.underlying58 rfl (by rw [size_pk, hcs]) ?_
  refine wpList_plain rfl fun K hK => ?_
  go_simp
  refine hK _ _ ?_
  clear hK K
  refine wpList_plain rfl fun K hK => ?_
  go_simp
  refine hK _ _ ?_
  clear hK K
  refine wpList_plain rfl fun K hK => ?_
  go_simp
  go_at_call 96
  refine hQt.out.mono ?_
  rintro e w3 ⟨⟨r1, r2, r3⟩, hb3⟩
  obtain ⟨z, rfl, hz, hzo, hzE⟩ : ∃ z : Array Value, e = .returned (.tuple #[.agg z, .int .i64 (Kq : Int)]) ∧ z.size = 23 ∧ z.all (·.oneCell') = true ∧ (if Kq = 0 then y else pkZ) = z := by
    by_cases h1 : K1 = 0
    · rw [if_neg (fun h => h h1)] at hKq
      have hK2 := hKq.out
      by_cases h2 : K2 = 0
      · refine ⟨y, by rw [r3 h1 h2, ← hK2, h2]; rfl, hys, hyo.out, by rw [if_pos (by omega)]⟩
      · refine ⟨pkZ, by rw [r2 h1 h2, ← hK2], pkZ_size, pkZ_one, by rw [if_neg (by omega)]⟩
    · rw [if_pos h1] at hKq
      have hK1 := hKq.out
      exact ⟨pkZ, by rw [r1 h1, ← hK1], pkZ_size, pkZ_one, by rw [if_neg (by omega)]⟩
  have z3 := hb3.size
  have hB3 := hb2.out.trans (hb3.mono (by omega))
  have hg13 := blk_below hb3 (by omega) hg1.out
  clear r1 r2 r3 hb3
  replace hB3 := hide hB3
  replace hg13 := hide hg13
  replace hzo := hide hzo
  replace hzE := hide hzE
  refine hK _ _ ?_
  clear hK K
  refine wpList_plain rfl fun K hK => ?_
  go_simp
  refine hK _ _ ?_
  clear hK K
  refine wpList_plain rfl fun K hK => ?_
  go_simp
  refine hK _ _ ?_
  clear hK K
  refine wpl_st rfl 58 (.tmp 8) (.tmp 75) rfl (w.heap.size + 1) 0 rfl z rfl hg13.out (by rw [hzz, hz]; omega) (by rw [size_pk, hz]) hzo.out fun w9 hg9 g9 => ?_
  rw [putA_whole _ _ (by rw [hzz, hz])] at hg9
  have hB9 := hB3.out.trans (below_grown g9 (by omega) (by omega))
  have hld : (loadVar 58 ⟨w.heap.size + 1, 0, none⟩).run Try.prog w9 = .ok (.agg z) w9 := by
    simpa using run_loadVar_mid w9 (w.heap.size + 1) 0 58 z.toList _ (blk_range hg9) Try.underlying58 rfl (by rw [size_pk, Array.length_toList, hz])
  have hfin : End2 Kq y w w9 (.returned (.tuple #[.agg z, .int .i64 (Kq : Int)])) := ⟨by rw [hzE.out], hB9⟩
  clear g9
  replace hg9 := hide hg9
  replace hB9 := hide hB9
  replace hfin := hide hfin
  replace hld := hide hld
  refine wpList_plain rfl fun K hK => ?_
  go_simp
  refine hK _ _ ?_
  clear hK K
  refine wpList_nil ?_
  go_wp2_with fail
  exact bodyPost_ret (v := .tuple #[.agg z, .int .i64 (Kq : Int)]) (by simp [results, Try.results85, asAddr, hld.out, Result.andThen]) rfl hfin.out
end Pkt
end Go.Proofs.Ytdmgbngdpjcliaa
/- four.Bytes by contract, where the header may be. Conditions: options of at most 40 bytes, few bytes behind it. -/
namespace Go.Proofs.Ytdmgbngdpjcliaa
open Go.RowKit Go.ChangeShapes Go.WideShapes Go.ChangeAt Go.Deep
namespace Four
theorem hdB_length (tos id fl ttl proto slo dlo : Nat) (os : List UInt8) (pl : Nat) : (hdB tos id fl ttl proto slo dlo os pl).length = 20 + os.length := by
  unfold hdB
  rw [setB_length _ _ _ (by rw [hdB0_length]; simp [beB]; omega), hdB0_length]
set_option maxRecDepth 20000 in
set_option maxHeartbeats 8000000 in
theorem bytes_yes (tos id : Nat) (df mf : Bool) (frag ttl proto slo dlo fl : Nat) (hfl : flI df mf frag = (fl : Int)) (A : Option Addr) (n c : Nat) (os : List UInt8) (P : Option Addr) (m d : Nat) (ps : List UInt8) (w : World)
    (h1 : tos ≤ 255) (h2 : id ≤ 65535) (h3 : frag ≤ 8191) (h4 : ttl ≤ 255) (h5 : proto ≤ 255) (h6 : slo < 4294967296) (h7 : dlo < 4294967296) (h8 : n ≤ 40) (h9 : n % 4 = 0)
    (ho : IsB w w.heap.size A n os) (hp : IsB w w.heap.size P m ps) (hm : 20 + n + m ≤ 65535) :
    Calls Try.prog 47 #[hdV tos id df mf frag ttl proto false 0 slo false 0 dlo A n c, .slice P m d] w fun e w' => ∃ v, e = .returned (.tuple #[v, .int .i64 0]) ∧ OwnB w' w.heap.size v (hdB tos id fl ttl proto slo dlo os m ++ ps) ∧ Below w.heap.size w w' := by
  have hno := ho.1
  have hmp := hp.1
  have hbox := blk_new w 51 #[.int .i64 tos, .int .i64 id, .bool df, .bool mf, .int .i64 frag, .int .i64 ttl, .int .i64 proto, .bool false, .int .u64 0, .int .u64 slo, .bool false, .int .u64 0, .int .u64 dlo, .slice A n c]
  replace ho := hide ho
  replace hp := hide hp
  replace hno := hide hno
  replace hmp := hide hmp
  unfold hdV
  go_enter Try.func47, Try.ntmps47
  go_wp2_with fail
  refine (right_yes tos id df mf frag ttl proto slo dlo A n c _ (by omega) (by omega) (by omega) (by omega) (by omega) (by omega) (by omega) (by omega) (by omega) (by omega) (by omega) (by omega) h8 h9).mono ?_
  rintro e w1 ⟨rfl, hb1⟩
  obtain ⟨B, hB⟩ : ∃ B, w.heap.size + 1 = B := ⟨_, rfl⟩
  have hbw1 : Below B (w.alloc (hdC tos id df mf frag ttl proto false 0 slo false 0 dlo A n c)) w1 := by rw [← hB]; simpa using hb1
  have hz1 : B ≤ w1.heap.size := by have := hb1.size; simp only [World.size_alloc] at this; omega
  have hbox1 := blk_below hb1 (by simp) hbox
  have hcg := blk_cell hbox1
  have hw1 : Below w.heap.size w w1 := ((Below.refl _ _).alloc (Nat.le_refl _) _).trans (hb1.mono (by simp))
  have hltB : w.heap.size < B := by omega
  replace hbox := hide hbox
  replace hbox1 := hide hbox1
  replace hb1 := hide hb1
  replace hbw1 := hide hbw1
  replace hw1 := hide hw1
  have hnb : n ≤ 1099511627776 := by omega
  go_wp2_with fail
  refine (len_any tos id df mf frag ttl proto false 0 slo false 0 dlo A n c _ hnb).mono ?_
  rintro e w2 ⟨rfl, hb2⟩
  have hbox2 := blk_below (hb2.mono hz1) hltB hbox1.out
  have hcg2 := blk_cell hbox2
  have hz2 := Nat.le_trans hz1 hb2.size
  have hw2 : Below w.heap.size w w2 := hw1.out.trans (hb2.mono (by omega))
  clear hcg
  replace hbox2 := hide hbox2
  replace hb2 := hide hb2
  replace hw2 := hide hw2
  have q0 : bits .or .u64 (frag : Int) 16384 = (frag : Int) + 16384 := u64_or16384 _ (by omega) (by omega)
  unfold flI at hfl
  obtain ⟨f1, hf1⟩ : ∃ f1 : Int, (frag : Int) + (if df then 16384 else 0) = f1 := ⟨_, rfl⟩
  have q1 : bits .or .u64 f1 8192 = f1 + 8192 := by
    rw [← hf1]
    rcases df with _ | _
    · simpa using u64_or8192 (frag : Int) (by omega) (by omega)
    · simpa using u64_or8192' (frag : Int) (by omega) (by omega)
  rw [hf1] at hfl
  have hfl2 : fl < 65536 := by
    have : f1 ≤ 8191 + 16384 := by rw [← hf1]; split <;> omega
    have : (if mf then (8192 : Int) else 0) ≤ 8192 := by split <;> omega
    omega
  replace hf1 := hide hf1
  replace hfl := hide hfl
  go_upto_if 23 with fail
  go_cut [6] (fun s6 wx => s6 = .int .u64 f1 ∧ w2 = wx)
  case first =>
    rcases df with _ | _ <;> (go_wp2_with fail; go_meet; exact ⟨by rw [← hf1.out]; simp, rfl⟩)
  case rest =>
  obtain ⟨rfl, rfl⟩ := hcut
  go_upto_if 27 with fail
  go_cut [6] (fun s6 wx => s6 = .int .u64 (fl : Int) ∧ w2 = wx)
  case first =>
    rcases mf with _ | _ <;> (go_wp2_with fail; go_meet; exact ⟨by rw [← hfl.out]; simp, rfl⟩)
  case rest =>
  obtain ⟨rfl, rfl⟩ := hcut
  clear q0 q1
  have hcl : ∀ (l : Later w2) (o : Nat), l.w.cell? ⟨w.heap.size, o, none⟩ = _ := fun l o => blk_cell (blk_below l.hb (Nat.lt_of_lt_of_le hltB hz2) hbox2.out) o
  go_wp2_with fail
  refine wp_region_L (by kernel_rfl) ?_
  refine wpE_seg 0 8 (fuel := 2) (by kernel_rfl) (fun d _ _ _ _ h => by cases d <;> exact h) (by kernel_rfl) (by kernel_rfl) ?_
  simp only [List.drop_zero, List.take_succ_cons, List.take_zero]
  (refine wpQE_step (fun K hK => ?_); go_simp; refine hK _ ?_; clear hK K)
  (refine wpQE_step (fun K hK => ?_); go_simp; apply Exists.intro; refine ⟨fun l => ?_, hK _ ?_⟩; (go_at_call 50; refine (len_any tos id _ _ frag ttl proto false 0 slo false 0 dlo A n c _ hnb).mono ?_; rintro e w' ⟨rfl, hb⟩; exact ⟨rfl, hb⟩); clear hK K)
  iterate 6 (refine wpQE_step (fun K hK => ?_); go_simp; refine hK _ ?_; clear hK K)
  refine wpQE_nil ?_
  obtain ⟨sz, hsz⟩ : ∃ sz, (20 + n) / 4 = sz := ⟨_, rfl⟩
  have r1 : IntKind.i64.wrap ((20 + (n : Int)).tdiv 4) = (sz : Int) := by
    rw [Int.tdiv_eq_ediv_of_nonneg (by omega)]
    rw [wraps62 _ (by omega) (by omega)]
    omega
  have r2 : bits .or .i64 64 (sz : Int) = ((64 + sz : Nat) : Int) := by rw [i64_or64 _ (by omega) (by omega)]; omega
  have r3 : IntKind.u8.wrap ((64 + sz : Nat) : Int) = ((64 + sz : Nat) : Int) := wraps_u8 _ (by omega) (by omega)
  have r4 : IntKind.u8.wrap (tos : Int) = (tos : Int) := wraps_u8 _ (by omega) (by omega)
  rw [r1, r2, r3, r4]
  clear r1 r2 r3 r4 hcl
  refine wpE_step 8 (fuel := 1) rfl (by kernel_rfl) (fun l K hK => ?_)
  go_simp
  have hzl : B ≤ l.w.heap.size := Nat.le_trans hz2 l.hb.size
  have hown0 : OwnB (l.w.alloc (.cells #[.int .u8 ((64 + sz : Nat) : Int), .int .u8 (tos : Int)] 5)) B (.slice (some ⟨l.w.heap.size, 0, none⟩) 2 2) [UInt8.ofNat (64 + sz), UInt8.ofNat tos] :=
    OwnB.litv l.w B _ _ 2 (by simp only [List.map_cons, List.map_nil]; rw [u8v_nat _ (by omega), u8v_nat _ (by omega)]) rfl hzl (by omega)
  obtain ⟨v3, hv3⟩ : ∃ v3, Value.slice (some ⟨l.w.heap.size, 0, none⟩) 2 2 = v3 := ⟨_, rfl⟩
  obtain ⟨w3, hw3⟩ : ∃ w3, l.w.alloc (.cells #[.int .u8 ((64 + sz : Nat) : Int), .int .u8 (tos : Int)] 5) = w3 := ⟨_, rfl⟩
  have hb3 : Below l.w.heap.size l.w w3 := hw3 ▸ (Below.refl _ _).alloc (Nat.le_refl _) _
  rw [hw3, hv3] at hown0
  refine hK _ _ (by simpa [LaterThan] using hw3 ▸ hb3) ?_
  clear hK K
  have hw3' : (l.w.alloc (.cells #[.int .u8 (64 + (sz : Int)), .int .u8 (tos : Int)] 5)) = w3 := by rw [← hw3]; simp
  rw [hw3', hv3]
  clear hw3 hw3' hv3
  refine wpE_end (by kernel_rfl) (fun l2 => ?_)
  refine wpT_step 9 rfl (by kernel_rfl) (fun K hK => ?_)
  go_simp
  refine hK _ _ ?_
  clear hK K
  refine wpT_done (by kernel_rfl) ?_ 0
  obtain ⟨w4, hw4⟩ : ∃ w4, l2.w = w4 := ⟨_, rfl⟩
  have hown4 : OwnB w4 B v3 _ := hw4 ▸ hown0.below l2.hb
  have hb4 : Below B w2 w4 := hw4 ▸ ((l.hb.mono hz2).trans (hb3.mono hzl)).trans (l2.hb.mono (Nat.le_trans hzl hb3.size))
  rw [hw4]
  clear hw4 hown0 hb3
  have hz4 : B ≤ w4.heap.size := Nat.le_trans hz2 hb4.size
  have hbox4 := blk_below hb4 hltB hbox2.out
  replace hown4 := hide hown4
  replace hbox4 := hide hbox4
  have hcl4 : ∀ (l : Later w4) (o : Nat), l.w.cell? ⟨w.heap.size, o, none⟩ = _ := fun l o => blk_cell (blk_below l.hb (Nat.lt_of_lt_of_le hltB hz4) hbox4.out) o
  go_wp2_with fail
  refine wp_region_L (by kernel_rfl) ?_
  refine wpE_seg 0 11 (fuel := 3) (by kernel_rfl) (fun d _ _ _ _ h => by cases d <;> exact h) (by kernel_rfl) (by kernel_rfl) ?_
  simp only [List.drop_zero, List.take_succ_cons, List.take_zero]
  iterate 2 (refine wpQE_step (fun K hK => ?_); go_simp; refine hK _ ?_; clear hK K)
  (refine wpQE_step (fun K hK => ?_); go_simp; apply Exists.intro; refine ⟨fun l => ?_, hK _ ?_⟩; (go_at_call 50; refine (len_any tos id _ _ frag ttl proto false 0 slo false 0 dlo A n c _ hnb).mono ?_; rintro e w' ⟨rfl, hb⟩; exact ⟨rfl, hb⟩); clear hK K)
  iterate 8 (refine wpQE_step (fun K hK => ?_); go_simp; refine hK _ ?_; clear hK K)
  refine wpQE_nil ?_
  clear hcl4
  refine wpE_step 11 (fuel := 2) rfl (by kernel_rfl) (fun l K hK => ?_)
  go_simp
  obtain ⟨T, hT⟩ : ∃ T, 20 + n + m = T := ⟨_, rfl⟩
  have r5 : IntKind.i64.wrap (20 + (n : Int) + (m : Int)) = (T : Int) := by rw [wraps62 _ (by omega) (by omega)]; omega
  have r6 : IntKind.u64.wrap (T : Int) = (T : Int) := wrapsu64 _ (by omega) (by omega)
  have r7 : IntKind.u64.wrap (id : Int) = (id : Int) := wrapsu64 _ (by omega) (by omega)
  rw [r5, r6, r7]
  clear r5 r6 r7
  obtain ⟨w5, hw5⟩ : ∃ w5, l.w.alloc (.cells #[.int .u64 (T : Int), .int .u64 (id : Int), .int .u64 (fl : Int)] 24) = w5 := ⟨_, rfl⟩
  have hzl4 := l.hb.size
  have hiv5 : IsV w5 (l.w.heap.size + 1) 1 (some ⟨l.w.heap.size, 0, none⟩) 3 (([T, id, fl] : List Nat).map u64v) := hw5 ▸ IsV.lit l.w 24 [.int .u64 (T : Int), .int .u64 (id : Int), .int .u64 (fl : Int)] 3 3 rfl
  have hb5 : Below l.w.heap.size l.w w5 := hw5 ▸ (Below.refl _ _).alloc (Nat.le_refl _) _
  have hz5 : w5.heap.size = l.w.heap.size + 1 := by rw [← hw5]; simp
  rw [hw5]
  refine hK _ _ hb5 ?_
  clear hK K
  clear hw5
  refine wpE_end (by kernel_rfl) (fun l2 => ?_)
  refine wpT_step 12 rfl (by kernel_rfl) (fun K hK => ?_)
  go_simp
  go_at_call 78
  have hb6 : Below w4.heap.size w4 l2.w := (l.hb.trans (hb5.mono hzl4)).trans (l2.hb.mono (by omega))
  have hown6 := hown4.out.below hb6
  have hz6 := hb6.size
  refine (all_any B _ _ 2 _ rfl _ 3 _ [T, id, fl] _ hown6 (Nat.le_trans hz4 hz6) (by omega) (by simp) (l.w.heap.size + 1) (hiv5.below (l2.hb.mono (by omega))) ?_ (by have := l2.hb.size; omega) (by omega) ?_).mono ?_
  · intro b off he e
    cases he
    have := (hown4.out.lt _ e.symm).2
    omega
  · intro N hN
    simp only [List.mem_cons, List.not_mem_nil, or_false] at hN
    omega
  rintro e w7 ⟨v7, rfl, hown7, hg7⟩
  refine hK _ _ ?_
  clear hK K
  refine wpT_step 13 rfl (by kernel_rfl) (fun K hK => ?_)
  go_simp
  refine hK _ _ ?_
  clear hK K
  refine wpT_done (by kernel_rfl) ?_ 0
  have hb7 : Below B w2 w7 := (hb4.trans (hb6.mono hz4)).trans (hg7.below hown6 (Nat.le_trans hz4 hz6))
  have hz7 : B ≤ w7.heap.size := Nat.le_trans hz2 hb7.size
  have hbox7 := blk_below hb7 hltB hbox2.out
  have hcg7 := blk_cell hbox7
  have hv8 : [Value.int .u8 (ttl : Int), .int .u8 (proto : Int), .int .u8 0, .int .u8 0] = ([UInt8.ofNat ttl, UInt8.ofNat proto, 0, 0] : List UInt8).map u8v := by
    simp only [List.map_cons, List.map_nil]
    rw [u8v_nat _ (by omega), u8v_nat _ (by omega)]
    rfl
  clear hb6 hown6 hg7 hb5 hiv5 hcg2
  replace hb4 := hide hb4
  replace hv8 := hide hv8
  replace hown7 := hide hown7
  replace hb7 := hide hb7
  replace hbox7 := hide hbox7
  replace hsz := hide hsz
  go_wp2_with (at_builtin; refine wpl_lit_bv rfl (.tmp 52) (.tmp 59) rfl B _ _ [UInt8.ofNat ttl, UInt8.ofNat proto, 0, 0] _ _ rfl rfl ?_ ?_ hown7.out ?_ ?_ ?_)
  · exact hv8.out
  · rfl
  · exact hz7
  · simp [allB_length]
  intro v8 w8 hown8 hg8
  have hb8 := hb7.out.trans (hg8.below hown7.out hz7)
  have hz8 := Nat.le_trans hz2 hb8.size
  have hbox8 := blk_below hb8 hltB hbox2.out
  have hcg8 := blk_cell hbox8
  clear hcg7 hg8
  replace hown8 := hide hown8
  replace hb8 := hide hb8
  replace hbox8 := hide hbox8
  go_wp2_with fail
  refine (all_lit B _ _ 4 _ rfl [slo, dlo] _ rfl 2 _ rfl _ _ _ rfl hown8.out hz8 (by omega) (by simp [allB_length]) (by omega) ?_).mono ?_
  · intro N hN
    simp only [List.mem_cons, List.not_mem_nil, or_false] at hN
    omega
  rintro e w9 ⟨v9, rfl, hown9, hg9⟩
  have hb9 := hb8.out.trans (hg9.below hown8.out hz8)
  have hz9 := Nat.le_trans hz2 hb9.size
  have hbox9 := blk_below hb9 hltB hbox2.out
  have hcg9 := blk_cell hbox9
  have h0B : w.heap.size ≤ B := by omega
  have ho9 := ho.out.below (hw2.out.trans (hb9.mono h0B))
  clear hcg8 hg9
  replace hown9 := hide hown9
  replace hb9 := hide hb9
  replace hbox9 := hide hbox9
  replace ho9 := hide ho9
  go_wp2_with (at_builtin; refine wpl_src_bv rfl (.tmp 70) (.tmp 72) rfl B _ _ os A n c w.heap.size rfl rfl hown9.out ho9.out ?_ ?_ ?_)
  · exact hz9
  · simp [allB_length]; omega
  intro v10 w10 hown10 hg10
  have hb10 := hb9.out.trans (hg10.below hown9.out hz9)
  have hz10 := Nat.le_trans hz2 hb10.size
  have hown10' : OwnB w10 B v10 (hdB0 tos id fl ttl proto slo dlo os m) := by
    unfold hdB0
    rw [hno.out, hsz.out, hT]
    simpa [allB] using hown10
  have hlen : (hdB0 tos id fl ttl proto slo dlo os m).length = 20 + n := by rw [hdB0_length, hno.out]
  obtain ⟨A10, c10, rfl, hc10, hm10, hi10⟩ := hown10'.form
  rw [hlen] at hc10 hi10 hown10' ⊢
  clear hg10 hown10 hcg9
  replace hown10' := hide hown10'
  replace hi10 := hide hi10
  replace hlen := hide hlen
  replace hb10 := hide hb10
  go_wp2_with fail
  refine (Sum.check_any _ _ _ [⟨A10, c10, hdB0 tos id fl ttl proto slo dlo os m⟩] _ (isP_one _ rfl hi10.out (by unfold maxLen; omega)) (by unfold maxLen; omega)).mono ?_
  rintro e w' ⟨rfl, rfl⟩
  have hfl1 : Sum.flat [(⟨A10, c10, hdB0 tos id fl ttl proto slo dlo os m⟩ : Sum.Part)] = hdB0 tos id fl ttl proto slo dlo os m := by simp [Sum.flat]
  rw [hfl1]
  clear hfl1
  obtain ⟨C, hC⟩ : ∃ C, 65535 - Sum.ones (Sum.tot false (hdB0 tos id fl ttl proto slo dlo os m)) = C := ⟨_, rfl⟩
  rw [hC]
  have hCl : C ≤ 65535 := by omega
  replace hC := hide hC
  go_wp2_with fail
  refine (set_in A10 (20 + n) c10 (hdB0 tos id fl ttl proto slo dlo os m) 10 C 2 _ _ _ rfl rfl rfl _ (hi10.out.alloc _) (by omega) (by omega) (by omega) (by omega) (by omega)).mono ?_
  rintro e w11 ⟨v11, rfl, hown11, hb11⟩
  have hb11' : Below w10.heap.size w10 w11 := ((Below.refl _ _).alloc (Nat.le_refl _) _).trans (hb11.mono (by simp))
  have hB11 := hb10.out.trans (hb11'.mono hz10)
  have hown11' : OwnB w11 B v11 (hdB tos id fl ttl proto slo dlo os m) := by
    have h1 := hown11.weaken (base' := B) (by simp; omega)
    unfold hdB
    rw [hC.out]
    exact h1
  have hz11 := Nat.le_trans hz2 hB11.size
  have hp11 := hp.out.below (hw2.out.trans (hB11.mono h0B))
  have hlen2 : (hdB tos id fl ttl proto slo dlo os m).length + m ≤ 1099511627776 := by
    rw [hdB_length, hno.out]
    omega
  clear hown11 hb11 hb11'
  replace hown11' := hide hown11'
  replace hp11 := hide hp11
  replace hB11 := hide hB11
  go_wp2_with (at_builtin; refine wpl_src_bv rfl (.tmp 80) (.tmp 81) rfl B _ _ ps P m d w.heap.size rfl rfl hown11'.out hp11.out ?_ ?_ ?_)
  · exact hz11
  · exact hlen2
  intro v12 w12 hown12 hg12
  have hb12 := hw2.out.trans ((hB11.out.trans (hg12.below hown11'.out hz11)).mono h0B)
  replace hown12 := hide hown12
  replace hb12 := hide hb12
  clear hg12
  go_wp2_with fail
  go_ret2
  exact ⟨v12, rfl, hown12.out.weaken h0B, hb12.out⟩
end Four
end Go.Proofs.Ytdmgbngdpjcliaa
