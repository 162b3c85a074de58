/- pkt.parse4, by contract: a packet of version 4. Conditions: what four.Parse makes of the bytes, and what upper makes of what is behind. -/
import Derived.Test.YtfmmmjaficbchaaQNatFlows12
import Derived.Test.YtfmmmjaficbchaaQNatFlows11
import Derived.Test.YtfmmmjaficbchaaQNatFlows4
import Derived.Test.YtfmmmjaficbchaaQNatFlows9
import Derived.Great.Walk
namespace Go.Proofs.Ytfmmmjaficbchaa
open Go.RowKit Go.ChangeShapes Go.WideShapes Go.ChangeAt Go.Deep
section
variable {P : Program} {md : Region.Mode} {Q : Exit → Act → World → Prop}
/-- A whole struct is read, in a drawn region. -/
theorem wpQE_ld {ops : Array Oper} {w0 : World} {Q : Act → Prop} {a : Act} {op : Oper} {rest : List Oper} (hgd : op.guard = none) (ty : TypeId) (x : Operand) (ho : op.op = .load ty x) (g : Nat) (hx : a.eval x = .pointer (some ⟨g, 0, none⟩)) (cs : Array Value) {t : TypeId} (d : TypeDesc)
    (hS : ∀ l : Later w0, l.w.heap[g]? = some (.cells cs t (0, 0))) (hu : P.underlying ty = some d) (hd : d.isRow = true) (hi : (P.info? ty).map (·.size) = some cs.size)
    (h : wpQE P ops w0 Q rest (a.put op.dst (.agg cs))) : wpQE P ops w0 Q (op :: rest) a := wpQE_step fun K hK => by
  rw [if_pos (by simp [Region.wanted, hgd])]
  refine ⟨.agg cs, fun l => ?_, hK _ h⟩
  have h1 := run_loadVar_mid (P := P) l.w g 0 ty cs.toList d (blk_range (hS l)) hu hd (by rw [hi, Array.length_toList])
  unfold execOp
  simp only [ho, hx, Instr.loadAt, Instr.sureAddr, Sem.run_bind, Sem.run_pure, Result.andThen_ok, h1]
  exact ⟨by simp, lt_refl _⟩
/-- A struct is stored, as the one step that may come up. -/
theorem wpT_st (i : Nat) {L : List Oper} {op : Oper} {rest : List Oper} {fuel : Nat} {listed : Array Bool} {a : Act} {w : World} (hd : L.drop i = op :: rest) (hrd : Region.ready md L.toArray listed = [i]) (hgd : op.guard = none)
    (ty : TypeId) (x y : Operand) (ho : op.op = .store ty x y) (g o : Nat) (hx : a.eval x = .pointer (some ⟨g, o, none⟩)) (vs : Array Value) (hy : a.eval y = .agg vs) {cs : Array Value} {t : TypeId} (hc : w.heap[g]? = some (.cells cs t (0, 0))) (hn : o + vs.size ≤ cs.size)
    (hi : (P.info? ty).map (·.size) = some vs.size) (h1 : vs.all (·.oneCell') = true)
    (h : ∀ w', w'.heap[g]? = some (.cells (putA cs o vs.toList) t (0, 0)) → w.grownBy w' (some g) → wpAny P md L.toArray Q fuel (listed.setIfInBounds i true) (a.put op.dst undef) w') : wpAny P md L.toArray Q (fuel + 1) listed a w := by
  obtain ⟨w', e, h2, h3⟩ := stored_at (o := o) hc vs.toList (by simpa using hn)
  refine wpT_step i hd hrd fun K hK => ?_
  rw [if_pos (by unfold Region.wanted; rw [hgd])]
  refine wp_store_mid ty x y ho g o vs hx hy (blk_there hc hn) hi h1 ?_
  rw [e]
  exact hK _ _ (h w' h2 h3)
end
namespace Pkt
/-- A packet of version 4 without what is behind its header. -/
def p4A (proto slo dlo ttl sz : Nat) : Array Value := #[.bool false, .int .i64 (proto : Int), .bool false, .int .u64 0, .int .u64 (slo : Int), .bool false, .int .u64 0, .int .u64 (dlo : Int), .int .i64 0, .int .i64 0, .int .i64 (ttl : Int), .int .i64 0, .bool false, .int .i64 0, .bool false, .int .u64 0, .int .u64 0, .bool false, .int .u64 0, .int .u64 0, .int .i64 0, .int .i64 0, .int .i64 (sz : Int)]
theorem p4A_one (proto slo dlo ttl sz : Nat) : (p4A proto slo dlo ttl sz).all (·.oneCell') = true := all_oneCell_toArray (by
  intro v hv
  simp only [List.mem_cons, List.not_mem_nil, or_false] at hv
  rcases hv with rfl | rfl | rfl | rfl | rfl | rfl | rfl | rfl | rfl | rfl | rfl | rfl | rfl | rfl | rfl | rfl | rfl | rfl | rfl | rfl | rfl | rfl | rfl <;> rfl)
/-- What goes ahead in a check in version 4. -/
def ps4 (slo dlo proto m1 : Nat) : List UInt8 := ((beB slo 4 ++ beB dlo 4) ++ [0, UInt8.ofNat proto]) ++ beB m1 2
/-- What upper makes of bytes, wherever they lie. -/
def UpIs (cs : Array Value) (errs : Int) (xs ps : List UInt8) (K : Nat) (y : Array Value) : Prop :=
  ∀ (A P : Option Addr) (c d : Nat) (w : World), IsB w w.heap.size A xs.length xs → IsB w w.heap.size P ps.length ps → xs.length ≤ c → c ≤ maxLen → Calls Try.prog 63 #[.agg cs, .slice A xs.length c, .slice P ps.length d, .int .i64 errs] w fun e w' => End2 K y w w' e
set_option maxRecDepth 20000 in
set_option maxHeartbeats 16000000 in
theorem parse4_ok (n : Nat) (xs : List UInt8) (tos id : Nat) (df : Bool) (ttl proto slo dlo n1 m1 : Nat) (rest : List UInt8) (hF : Tun.FourIs n xs 0 tos id df false 0 ttl proto slo dlo n1 m1 rest) (hsz : 20 + n1 + m1 ≤ 1099511627776) (hpr : proto ≤ 255) (hsl : slo < 4294967296) (hdl : dlo < 4294967296) (hrm : rest.length = m1)
    (KK : Nat) (y : Array Value) (hU : UpIs (p4A proto slo dlo ttl (20 + n1 + m1)) 1 rest (ps4 slo dlo proto m1) KK y) (hy : KK = 0 → y.size = 23 ∧ y.all (·.oneCell') = true)
    (A : Option Addr) (c : Nat) (w : World) (hx : IsB w w.heap.size A n xs) (hnc : n ≤ c) (hcm : c ≤ maxLen) :
    Calls Try.prog 37 #[.slice A n c] w fun e w' => End2 KK y w w' e := by
  obtain ⟨zs, hzs⟩ : ∃ zs, pkZ = zs := ⟨_, rfl⟩
  have hbz : Below w.heap.size w (w.alloc (.cells pkZ 34)) := (Below.refl _ _).alloc (Nat.le_refl _) _
  have hgz := blk_new w 34 pkZ
  obtain ⟨w1, hw1⟩ : ∃ w1, w.alloc (.cells pkZ 34) = w1 := ⟨_, rfl⟩
  have hz1 : w.heap.size < w1.heap.size := by rw [← hw1]; simp
  rw [hw1] at hbz hgz
  rw [hzs] at hgz
  unfold pkZ at hw1
  have hzz : zs.size = 23 := hzs ▸ pkZ_size
  have hFc := hF A c w1 (hx.on hbz) hnc hcm
  replace hx := hide hx
  replace hbz := hide hbz
  replace hgz := hide hgz
  replace hFc := hide hFc
  replace hF := hide hF
  replace hU := hide hU
  replace hzs := hide hzs
  replace hy := hide hy
  go_enter Try.func37, Try.ntmps37
  go_wp2_with fail
  refine hFc.out.mono ?_
  rintro e w2 ⟨A1, c1, A2, c2, rfl, hi2, hc2, hm2, hb2⟩
  have z2 := hb2.size
  obtain ⟨w3, hw3⟩ : ∃ w3, w2.alloc (Four.hdC tos id df false 0 ttl proto false 0 slo false 0 dlo A1 n1 c1) = w3 := ⟨_, rfl⟩
  have hb23 : Below w2.heap.size w2 w3 := hw3 ▸ (Below.refl _ _).alloc (Nat.le_refl _) _
  have hgh : w3.heap[w2.heap.size]? = some (Four.hdC tos id df false 0 ttl proto false 0 slo false 0 dlo A1 n1 c1) := hw3 ▸ blk_new _ _ _
  have hz3 : w2.heap.size < w3.heap.size := by rw [← hw3]; simp
  unfold Four.hdC at hgh hw3
  have hB3 := (hbz.out.trans (hb2.mono (by omega))).trans (hb23.mono (by omega))
  have hg03 := blk_below hb23 (by omega) (blk_below hb2 hz1 hgz.out)
  have hi3 := hi2.on hb23
  have hch := blk_cell hgh
  clear hw1 hb2 hb23 hi2
  unfold Four.hdV
  replace hgh := hide hgh
  replace hB3 := hide hB3
  replace hg03 := hide hg03
  replace hi3 := hide hi3
  go_upto_region 6 with fail
  clear hw3 hch
  go_cut [7] (fun tv wx => ∃ g w5, tv = .pointer (some ⟨g, 0, none⟩) ∧ w5.heap[g]? = some (.cells (p4A proto slo dlo ttl (20 + n1 + m1)) 34 (0, 0)) ∧ w3.heap.size ≤ g ∧ g < w5.heap.size ∧ Below w3.heap.size w3 w5 ∧ w5 = wx)
  case first =>
    have hcl := fun (l : Later w3) (o : Nat) => blk_cell (blk_below l.hb hz3 hgh.out) o
    have hln := fun (l : Later w3) => Four.len_any tos id df false 0 ttl proto false 0 slo false 0 dlo A1 n1 c1 l.w (by omega)
    replace hln := hide hln
    refine wp_region_L (by as_aux_lemma => kernel_rfl) ?_
    refine wpE_seg 0 15 (fuel := 2) (by as_aux_lemma => kernel_rfl) (fun d _ _ _ _ h => by cases d <;> exact h) (by as_aux_lemma => kernel_rfl) (by as_aux_lemma => kernel_rfl) ?_
    simp only [List.drop_zero, List.take_succ_cons, List.take_zero]
    iterate 10 (refine wpQE_step (fun K hK => ?_); go_simp; refine hK _ ?_; clear hK K)
    (refine wpQE_step (fun K hK => ?_); go_simp; apply Exists.intro; refine ⟨fun l => ?_, hK _ ?_⟩; (go_at_call 62; refine (hln.out l).mono ?_; rintro e w' ⟨rfl, hb⟩; exact ⟨rfl, hb⟩); clear hK K)
    iterate 4 (refine wpQE_step (fun K hK => ?_); go_simp; refine hK _ ?_; clear hK K)
    refine wpQE_nil ?_
    have q1 : IntKind.i64.wrap ((20 : Int) + (n1 : Int) + (m1 : Int)) = ((20 + n1 + m1 : Nat) : Int) := by rw [wraps62 _ (by omega) (by omega)]; omega
    rw [q1]
    clear q1 hcl hln
    refine wpE_step 15 (fuel := 1) rfl (by as_aux_lemma => kernel_rfl) (fun l K hK => ?_)
    go_simp
    have zl := l.hb.size
    have hbl2 : Below l.w.heap.size l.w (l.w.alloc (.cells pkZ 34)) := (Below.refl _ _).alloc (Nat.le_refl _) _
    have hgp := blk_new l.w 34 pkZ
    have hzp : l.w.heap.size < (l.w.alloc (.cells pkZ 34)).heap.size := by simp
    refine hK _ _ hbl2 ?_
    clear hK K
    change wpE _ _ _ _ _ _ _ _ (l.w.alloc (.cells pkZ 34))
    generalize l.w.alloc (.cells pkZ 34) = w4 at hbl2 hgp hzp ⊢
    refine wpE_end (by as_aux_lemma => kernel_rfl) (fun l2 => ?_)
    have zl2 := l2.hb.size
    have hgp2 := blk_below l2.hb hzp hgp
    have hBl : Below w3.heap.size w3 l2.w := (l.hb.trans (hbl2.mono zl)).trans (l2.hb.mono (by omega))
    refine wpT_st 16 rfl (by as_aux_lemma => kernel_rfl) rfl 34 (.tmp 7) (.tmp 42) rfl l.w.heap.size 0 rfl (p4A proto slo dlo ttl (20 + n1 + m1)) rfl hgp2 (show 0 + 23 ≤ 23 by omega) size_pk (p4A_one _ _ _ _ _) fun w5 hg5 g5 => ?_
    rw [putA_whole pkZ (p4A proto slo dlo ttl (20 + n1 + m1)) rfl] at hg5
    have hB5 := hBl.trans (below_grown g5 (by omega) (by omega))
    have z5 := g5.size
    clear g5
    replace hg5 := hide hg5
    replace hB5 := hide hB5
    replace hgp2 := hide hgp2
    replace hgp := hide hgp
    refine wpT_done (by as_aux_lemma => kernel_rfl) ?_ 0
    go_wp2_with fail
    go_meet
    exact ⟨l.w.heap.size, w5, rfl, hg5.out, by omega, by omega, hB5.out, rfl⟩
  case rest =>
  obtain ⟨g, w5, rfl, hg5, hgl, hgl2, hb5, rfl⟩ := hcut
  have z5 := hb5.size
  have hB5 := hB3.out.trans (hb5.mono (by omega))
  have hg05 := blk_below hb5 (by omega) hg03.out
  have hi5 := hi3.out.on hb5
  have hgh5 := blk_below hb5 hz3 hgh.out
  have hcl := fun (l : Later w5) (o : Nat) => blk_cell (blk_below l.hb (by omega) hgh5) o
  have hgl5 := fun (l : Later w5) => blk_below l.hb hgl2 hg5
  have hps := fun (l : Later w5) => Four.pseudo_any false 0 slo false 0 dlo proto m1 proto m1 (by omega) (by rw [IntKind.wrap_u64]; omega) l.w (by omega) (by omega) (by omega)
  replace hB5 := hide hB5
  replace hg05 := hide hg05
  replace hi5 := hide hi5
  replace hgh5 := hide hgh5
  replace hg5 := hide hg5
  replace hb5 := hide hb5
  replace hgl5 := hide hgl5
  replace hps := hide hps
  go_upto_region 7 with fail
  refine wp_region_L (by as_aux_lemma => kernel_rfl) ?_
  refine wpE_seg 0 10 (fuel := 6) (by as_aux_lemma => kernel_rfl) (fun d _ _ _ _ h => by cases d <;> exact h) (by as_aux_lemma => kernel_rfl) (by as_aux_lemma => kernel_rfl) ?_
  simp only [List.drop_zero, List.take_succ_cons, List.take_zero]
  refine wpQE_ld rfl 34 (.tmp 7) rfl g rfl (p4A proto slo dlo ttl (20 + n1 + m1)) _ hgl5.out Try.underlying34 rfl size_pk ?_
  generalize hpa : p4A proto slo dlo ttl (20 + n1 + m1) = pa at hU
  iterate 9 (refine wpQE_step (fun K hK => ?_); go_simp; refine hK _ ?_; clear hK K)
  refine wpQE_nil ?_
  clear hcl
  refine wpE_step 10 (fuel := 5) rfl (by as_aux_lemma => kernel_rfl) (fun l K hK => ?_)
  go_simp
  go_at_call 64
  refine (hps.out l).mono ?_
  rintro e w6 ⟨v, rfl, hown, hb6⟩
  refine hK _ _ hb6 ?_
  clear hK K
  obtain ⟨pl, hpl⟩ : ∃ pl, (ps4 slo dlo proto m1).length = pl := ⟨_, rfl⟩
  have hown' : OwnB w6 l.w.heap.size v (ps4 slo dlo proto m1) := hown
  obtain ⟨A6, c6, rfl, hc6, hm6, hi6⟩ := hown'.form
  rw [hpl] at hi6 hc6 ⊢
  clear hown hown'
  refine wpE_step 11 (fuel := 4) rfl (by as_aux_lemma => kernel_rfl) (fun l2 K hK => ?_)
  go_simp
  have zl := l.hb.size
  have z6 := hb6.size
  have zl2 := l2.hb.size
  have hbw : Below w5.heap.size w5 l2.w := (l.hb.trans (hb6.mono zl)).trans (l2.hb.mono (by omega))
  have hUc := hU.out A2 A6 c2 c6 l2.w (by rw [hrm]; exact hi5.out.on hbw) (by rw [hpl]; exact hi6.on l2.hb) (by omega) hm2
  rw [hrm, hpl] at hUc
  have hg0l := blk_below hbw (by omega) hg05.out
  have hBl := hB5.out.trans (hbw.mono (by omega))
  clear hb6 hi6
  replace hUc := hide hUc
  replace hg0l := hide hg0l
  replace hBl := hide hBl
  replace hpl := hide hpl
  replace hpa := hide hpa
  replace hbw := hide hbw
  go_at_call 63
  refine hUc.out.mono ?_
  rintro e w7 ⟨rfl, hb7⟩
  obtain ⟨z, hz, hzs2, hzo⟩ : ∃ z, (if KK = 0 then y else pkZ) = z ∧ z.size = 23 ∧ z.all (·.oneCell') = true := by
    by_cases h : KK = 0
    · exact ⟨y, by rw [if_pos h], hy.out h⟩
    · exact ⟨pkZ, by rw [if_neg h], pkZ_size, pkZ_one⟩
  rw [hz]
  refine hK _ _ hb7 ?_
  clear hK K
  refine wpE_seg 12 2 (fuel := 2) (by as_aux_lemma => kernel_rfl) (fun d _ _ _ _ h => by cases d <;> exact h) (by as_aux_lemma => kernel_rfl) (by as_aux_lemma => kernel_rfl) ?_
  simp only [List.drop_succ_cons, List.drop_zero, List.take_succ_cons, List.take_zero]
  iterate 2 (refine wpQE_step (fun K hK => ?_); go_simp; refine hK _ ?_; clear hK K)
  refine wpQE_nil ?_
  refine wpE_end (by as_aux_lemma => kernel_rfl) (fun l3 => ?_)
  have z7 := hb7.size
  have zl3 := l3.hb.size
  have hg07 := blk_below l3.hb (by omega) (blk_below hb7 (by omega) hg0l.out)
  have hB7 := (hBl.out.trans (hb7.mono (by omega))).trans (l3.hb.mono (by omega))
  clear hb7
  replace hg07 := hide hg07
  replace hB7 := hide hB7
  replace hzo := hide hzo
  replace hz := hide hz
  refine wpT_st 14 rfl (by as_aux_lemma => kernel_rfl) rfl 34 (.tmp 2) (.tmp 55) rfl w.heap.size 0 rfl z rfl hg07.out (by rw [hzz, hzs2]; omega) (by rw [size_pk, hzs2]) hzo.out fun w9 hg9 g9 => ?_
  rw [putA_whole _ _ (by rw [hzz, hzs2])] at hg9
  have hB9 := hB7.out.trans (below_grown g9 (by omega) (by omega))
  have hld : (loadVar 34 ⟨w.heap.size, 0, none⟩).run Try.prog w9 = .ok (.agg z) w9 := by
    simpa using run_loadVar_mid w9 w.heap.size 0 34 z.toList _ (blk_range hg9) Try.underlying34 rfl (by rw [size_pk, Array.length_toList, hzs2])
  have hfin : End2 KK y w w9 (.returned (.tuple #[.agg z, .int .i64 (KK : Int)])) := ⟨by rw [hz.out], hB9⟩
  clear g9
  replace hg9 := hide hg9
  replace hB9 := hide hB9
  replace hfin := hide hfin
  replace hld := hide hld
  refine wpT_step 15 rfl (by as_aux_lemma => kernel_rfl) (fun K hK => ?_)
  go_simp
  refine hK _ _ ?_
  clear hK K
  refine wpT_done (by as_aux_lemma => kernel_rfl) ?_ 0
  go_wp2_with fail
  exact bodyPost_ret (v := .tuple #[.agg z, .int .i64 (KK : Int)]) (by simp [results, Try.results37, asAddr, hld.out, Result.andThen]) rfl hfin.out
set_option maxRecDepth 20000 in
set_option maxHeartbeats 16000000 in
theorem parse4_bad (n : Nat) (xs : List UInt8) (KK : Nat) (hK0 : KK ≠ 0) (hF : Tun.FourIs n xs KK 0 0 false false 0 0 0 0 0 0 0 []) (y : Array Value)
    (A : Option Addr) (c : Nat) (w : World) (hx : IsB w w.heap.size A n xs) (hnc : n ≤ c) (hcm : c ≤ maxLen) :
    Calls Try.prog 37 #[.slice A n c] w fun e w' => End2 KK y w w' e := by
  have t1 : ((KK : Int) == 0) = false := by rw [beq_eq_false_iff_ne]; omega
  obtain ⟨zs, hzs⟩ : ∃ zs, pkZ = zs := ⟨_, rfl⟩
  have hbz : Below w.heap.size w (w.alloc (.cells pkZ 34)) := (Below.refl _ _).alloc (Nat.le_refl _) _
  have hgz := blk_new w 34 pkZ
  obtain ⟨w1, hw1⟩ : ∃ w1, w.alloc (.cells pkZ 34) = w1 := ⟨_, rfl⟩
  have hz1 : w.heap.size < w1.heap.size := by rw [← hw1]; simp
  rw [hw1] at hbz hgz
  rw [hzs] at hgz
  unfold pkZ at hw1
  have hzz : zs.size = 23 := hzs ▸ pkZ_size
  have hFc := hF A c w1 (hx.on hbz) hnc hcm
  replace hx := hide hx
  replace hbz := hide hbz
  replace hgz := hide hgz
  replace hFc := hide hFc
  replace hF := hide hF
  replace hzs := hide hzs
  go_enter Try.func37, Try.ntmps37
  go_wp2_with fail
  refine hFc.out.mono ?_
  rintro e w2 ⟨A1, c1, A2, c2, rfl, _, _, _, hb2⟩
  have z2 := hb2.size
  obtain ⟨w3, hw3⟩ : ∃ w3, w2.alloc (Four.hdC 0 0 false false 0 0 0 false 0 0 false 0 0 A1 0 c1) = w3 := ⟨_, rfl⟩
  have hb23 : Below w2.heap.size w2 w3 := hw3 ▸ (Below.refl _ _).alloc (Nat.le_refl _) _
  have hgh : w3.heap[w2.heap.size]? = some (Four.hdC 0 0 false false 0 0 0 false 0 0 false 0 0 A1 0 c1) := hw3 ▸ blk_new _ _ _
  have hz3 : w2.heap.size < w3.heap.size := by rw [← hw3]; simp
  unfold Four.hdC at hgh hw3
  have hB3 := (hbz.out.trans (hb2.mono (by omega))).trans (hb23.mono (by omega))
  have hg03 := blk_below hb23 (by omega) (blk_below hb2 hz1 hgz.out)
  have hch := blk_cell hgh
  clear hw1 hb2 hb23
  unfold Four.hdV
  replace hgh := hide hgh
  replace hB3 := hide hB3
  replace hg03 := hide hg03
  go_upto_region 3 with fail
  clear hw3 hch
  apply wp_region_lit
  refine wpList_plain rfl fun K hK => ?_
  go_simp
  refine hK _ _ ?_
  clear hK K
  refine wpList_plain rfl fun K hK => ?_
  go_simp
  refine hK _ _ ?_
  clear hK K
  refine wpl_st rfl 34 (.tmp 2) (.tmp 17) rfl w.heap.size 0 rfl pkZ rfl hg03.out (by rw [hzz, pkZ_size]; omega) size_pk pkZ_one fun w9 hg9 g9 => ?_
  rw [putA_whole _ _ (by rw [hzz, pkZ_size])] at hg9
  have hB9 := hB3.out.trans (below_grown g9 (by omega) (by omega))
  have hld : (loadVar 34 ⟨w.heap.size, 0, none⟩).run Try.prog w9 = .ok (.agg pkZ) w9 := by
    simpa using run_loadVar_mid w9 w.heap.size 0 34 pkZ.toList _ (blk_range hg9) Try.underlying34 rfl (by rw [size_pk, Array.length_toList, pkZ_size])
  have hfin := end_bad (y := y) KK hK0 hB9
  clear g9
  replace hg9 := hide hg9
  replace hB9 := hide hB9
  replace hfin := hide hfin
  replace hld := hide hld
  refine wpList_plain rfl fun K hK => ?_
  go_simp
  refine hK _ _ ?_
  clear hK K
  refine wpList_nil ?_
  go_wp2_with fail
  exact bodyPost_ret (v := .tuple #[.agg pkZ, .int .i64 (KK : Int)]) (by simp [results, Try.results37, asAddr, hld.out, Result.andThen]) rfl hfin.out
set_option maxRecDepth 20000 in
set_option maxHeartbeats 16000000 in
theorem parse4_frag (n : Nat) (xs : List UInt8) (tos id : Nat) (df mf : Bool) (frag ttl proto slo dlo n1 m1 : Nat) (rest : List UInt8) (hF : Tun.FourIs n xs 0 tos id df mf frag ttl proto slo dlo n1 m1 rest) (hfr : 0 < frag ∨ mf = true) (y : Array Value)
    (A : Option Addr) (c : Nat) (w : World) (hx : IsB w w.heap.size A n xs) (hnc : n ≤ c) (hcm : c ≤ maxLen) :
    Calls Try.prog 37 #[.slice A n c] w fun e w' => End2 21 y w w' e := by
  obtain ⟨zs, hzs⟩ : ∃ zs, pkZ = zs := ⟨_, rfl⟩
  have hbz : Below w.heap.size w (w.alloc (.cells pkZ 34)) := (Below.refl _ _).alloc (Nat.le_refl _) _
  have hgz := blk_new w 34 pkZ
  obtain ⟨w1, hw1⟩ : ∃ w1, w.alloc (.cells pkZ 34) = w1 := ⟨_, rfl⟩
  have hz1 : w.heap.size < w1.heap.size := by rw [← hw1]; simp
  rw [hw1] at hbz hgz
  rw [hzs] at hgz
  unfold pkZ at hw1
  have hzz : zs.size = 23 := hzs ▸ pkZ_size
  have hFc := hF A c w1 (hx.on hbz) hnc hcm
  replace hx := hide hx
  replace hbz := hide hbz
  replace hgz := hide hgz
  replace hFc := hide hFc
  replace hF := hide hF
  replace hzs := hide hzs
  go_enter Try.func37, Try.ntmps37
  go_wp2_with fail
  refine hFc.out.mono ?_
  rintro e w2 ⟨A1, c1, A2, c2, rfl, _, _, _, hb2⟩
  have z2 := hb2.size
  obtain ⟨w3, hw3⟩ : ∃ w3, w2.alloc (Four.hdC tos id df mf frag ttl proto false 0 slo false 0 dlo A1 n1 c1) = w3 := ⟨_, rfl⟩
  have hb23 : Below w2.heap.size w2 w3 := hw3 ▸ (Below.refl _ _).alloc (Nat.le_refl _) _
  have hgh : w3.heap[w2.heap.size]? = some (Four.hdC tos id df mf frag ttl proto false 0 slo false 0 dlo A1 n1 c1) := hw3 ▸ blk_new _ _ _
  have hz3 : w2.heap.size < w3.heap.size := by rw [← hw3]; simp
  unfold Four.hdC at hgh hw3
  have hB3 := (hbz.out.trans (hb2.mono (by omega))).trans (hb23.mono (by omega))
  have hg03 := blk_below hb23 (by omega) (blk_below hb2 hz1 hgz.out)
  have hch := blk_cell hgh
  clear hw1 hb2 hb23
  unfold Four.hdV
  replace hgh := hide hgh
  replace hB3 := hide hB3
  replace hg03 := hide hg03
  by_cases hf0 : 0 < frag
  · have t2 : (0 : Int) < (frag : Int) := by omega
    go_upto_region 5 with fail
    clear hw3 hch
    apply wp_region_lit
    refine wpList_plain rfl fun K hK => ?_
    go_simp
    refine hK _ _ ?_
    clear hK K
    refine wpl_st rfl 34 (.tmp 2) (.tmp 27) rfl w.heap.size 0 rfl pkZ rfl hg03.out (by rw [hzz, pkZ_size]; omega) size_pk pkZ_one fun w9 hg9 g9 => ?_
    rw [putA_whole _ _ (by rw [hzz, pkZ_size])] at hg9
    have hB9 := hB3.out.trans (below_grown g9 (by omega) (by omega))
    have hld : (loadVar 34 ⟨w.heap.size, 0, none⟩).run Try.prog w9 = .ok (.agg pkZ) w9 := by
      simpa using run_loadVar_mid w9 w.heap.size 0 34 pkZ.toList _ (blk_range hg9) Try.underlying34 rfl (by rw [size_pk, Array.length_toList, pkZ_size])
    have hfin := end_bad (y := y) 21 (by omega) hB9
    clear g9
    replace hg9 := hide hg9
    replace hB9 := hide hB9
    replace hfin := hide hfin
    replace hld := hide hld
    refine wpList_plain rfl fun K hK => ?_
    go_simp
    refine hK _ _ ?_
    clear hK K
    refine wpList_nil ?_
    go_wp2_with fail
    exact bodyPost_ret (v := .tuple #[.agg pkZ, .int .i64 (21 : Int)]) (by simp [results, Try.results37, asAddr, hld.out, Result.andThen]) rfl hfin.out
  · have t2 : ¬ (0 : Int) < (frag : Int) := by omega
    obtain rfl : mf = true := by rcases hfr with h | h; exact absurd h hf0; exact h
    go_upto_region 5 with fail
    clear hw3 hch
    apply wp_region_lit
    refine wpList_plain rfl fun K hK => ?_
    go_simp
    refine hK _ _ ?_
    clear hK K
    refine wpl_st rfl 34 (.tmp 2) (.tmp 27) rfl w.heap.size 0 rfl pkZ rfl hg03.out (by rw [hzz, pkZ_size]; omega) size_pk pkZ_one fun w9 hg9 g9 => ?_
    rw [putA_whole _ _ (by rw [hzz, pkZ_size])] at hg9
    have hB9 := hB3.out.trans (below_grown g9 (by omega) (by omega))
    have hld : (loadVar 34 ⟨w.heap.size, 0, none⟩).run Try.prog w9 = .ok (.agg pkZ) w9 := by
      simpa using run_loadVar_mid w9 w.heap.size 0 34 pkZ.toList _ (blk_range hg9) Try.underlying34 rfl (by rw [size_pk, Array.length_toList, pkZ_size])
    have hfin := end_bad (y := y) 21 (by omega) hB9
    clear g9
    replace hg9 := hide hg9
    replace hB9 := hide hB9
    replace hfin := hide hfin
    replace hld := hide hld
    refine wpList_plain rfl fun K hK => ?_
    go_simp
    refine hK _ _ ?_
    clear hK K
    refine wpList_nil ?_
    go_wp2_with fail
    exact bodyPost_ret (v := .tuple #[.agg pkZ, .int .i64 (21 : Int)]) (by simp [results, Try.results37, asAddr, hld.out, Result.andThen]) rfl hfin.out
end Pkt
end Go.Proofs.Ytfmmmjaficbchaa
/- pkt.parse6, by contract: a packet of version 6. Conditions: what six.Parse makes of the bytes, and what upper makes of what is behind. -/
namespace Go.Proofs.Ytfmmmjaficbchaa
open Go.RowKit Go.ChangeShapes Go.WideShapes Go.ChangeAt Go.Deep
namespace Pkt
/-- A packet of version 6 without what is behind its header. -/
def p6A (proto sh sl dh dl ho sz : Nat) : Array Value := #[.bool true, .int .i64 (proto : Int), .bool true, .int .u64 (sh : Int), .int .u64 (sl : Int), .bool true, .int .u64 (dh : Int), .int .u64 (dl : Int), .int .i64 0, .int .i64 0, .int .i64 (ho : Int), .int .i64 0, .bool false, .int .i64 0, .bool false, .int .u64 0, .int .u64 0, .bool false, .int .u64 0, .int .u64 0, .int .i64 0, .int .i64 0, .int .i64 (sz : Int)]
theorem p6A_one (proto sh sl dh dl ho sz : Nat) : (p6A proto sh sl dh dl ho sz).all (·.oneCell') = true := all_oneCell_toArray (by
  intro v hv
  simp only [List.mem_cons, List.not_mem_nil, or_false] at hv
  rcases hv with rfl | rfl | rfl | rfl | rfl | rfl | rfl | rfl | rfl | rfl | rfl | rfl | rfl | rfl | rfl | rfl | rfl | rfl | rfl | rfl | rfl | rfl | rfl <;> rfl)
set_option maxRecDepth 20000 in
set_option maxHeartbeats 16000000 in
theorem parse6_ok (n : Nat) (xs : List UInt8) (cl la ho sh sl dh dl : Nat) (acc : List (Int × List UInt8)) (proto m1 : Nat) (rest : List UInt8) (hF : Tun.SixIs n xs 0 cl la ho true sh sl true dh dl acc proto m1 rest) (hac : acc.length ≤ 8) (hal : ∀ e ∈ acc, e.2.length ≤ 2047) (hf0 : Six.fragP acc = 0) (hm0 : Six.moreP acc = false) (hmm : m1 ≤ 1099511627776) (hpr : proto ≤ 255) (hsh : sh < 18446744073709551616) (hsl : sl < 18446744073709551616) (hdh : dh < 18446744073709551616) (hdl : dl < 18446744073709551616) (hrm : rest.length = m1)
    (T : Nat) (hT : 40 + Six.sumP acc = T) (KK : Nat) (y : Array Value) (hU : UpIs (p6A proto sh sl dh dl ho (T + m1)) 58 rest (Six.pseudoB sh sl dh dl m1 proto) KK y) (hy : KK = 0 → y.size = 23 ∧ y.all (·.oneCell') = true)
    (A : Option Addr) (c : Nat) (w : World) (hx : IsB w w.heap.size A n xs) (hnc : n ≤ c) (hcm : c ≤ maxLen) :
    Calls Try.prog 38 #[.slice A n c] w fun e w' => End2 KK y w w' e := by
  obtain ⟨zs, hzs⟩ : ∃ zs, pkZ = zs := ⟨_, rfl⟩
  have hbz : Below w.heap.size w (w.alloc (.cells pkZ 34)) := (Below.refl _ _).alloc (Nat.le_refl _) _
  have hgz := blk_new w 34 pkZ
  obtain ⟨w1, hw1⟩ : ∃ w1, w.alloc (.cells pkZ 34) = w1 := ⟨_, rfl⟩
  have hz1 : w.heap.size < w1.heap.size := by rw [← hw1]; simp
  rw [hw1] at hbz hgz
  rw [hzs] at hgz
  unfold pkZ at hw1
  have hzz : zs.size = 23 := hzs ▸ pkZ_size
  have hFc := hF A c w1 (hx.on hbz) hnc hcm
  replace hx := hide hx
  replace hbz := hide hbz
  replace hgz := hide hgz
  replace hFc := hide hFc
  replace hF := hide hF
  replace hU := hide hU
  replace hzs := hide hzs
  replace hy := hide hy
  go_enter Try.func38, Try.ntmps38
  go_wp2_with fail
  refine hFc.out.mono ?_
  rintro e w2 ⟨X, m, xc, A2, c2, es, rfl, hpe, hX2, hmx, hxm, hi2, hc2, hm2, hb2⟩
  have z2 := hb2.size
  obtain ⟨w3, hw3⟩ : ∃ w3, w2.alloc (Six.hdC (cl : Int) la ho true sh sl true dh dl X m xc proto) = w3 := ⟨_, rfl⟩
  have hb23 : Below w2.heap.size w2 w3 := hw3 ▸ (Below.refl _ _).alloc (Nat.le_refl _) _
  have hgh : w3.heap[w2.heap.size]? = some (Six.hdC (cl : Int) la ho true sh sl true dh dl X m xc proto) := hw3 ▸ blk_new _ _ _
  have hz3 : w2.heap.size < w3.heap.size := by rw [← hw3]; simp
  unfold Six.hdC at hgh hw3
  have hB3 := (hbz.out.trans (hb2.mono (by omega))).trans (hb23.mono (by omega))
  have hg03 := blk_below hb23 (by omega) (blk_below hb2 hz1 hgz.out)
  have hi3 := hi2.on hb23
  have hX3 := hX2.on hb23
  have hel : es.length = m := hX2.1
  have hm8 : m ≤ 8 := by rw [← hel, ← Six.pes_length, hpe]; exact hac
  have hmL : m ≤ maxLen := by unfold maxLen; omega
  have heb : ∀ e ∈ es, e.xs.length ≤ 2047 := fun e he => hal (e.k, e.xs) (by rw [← hpe]; exact List.mem_map.2 ⟨e, he, rfl⟩)
  have hTs : 40 + Six.sumL es = T := by rw [Six.sumL_pes, hpe, hT]
  have hTl : T ≤ 16424 := by
    have := Six.sumP_le acc hal
    omega
  have hfs : beN (Six.partB es) 1 2 / 8 = 0 := by rw [Six.pes_frag, hpe, hf0]
  have hms : Six.moreP (Six.pes es) = false := by rw [hpe, hm0]
  have hch := blk_cell hgh
  clear hw1 hb2 hb23 hi2
  unfold Six.hdV
  replace hgh := hide hgh
  replace hB3 := hide hB3
  replace hg03 := hide hg03
  replace hi3 := hide hi3
  replace hX3 := hide hX3
  replace heb := hide heb
  replace hTs := hide hTs
  replace hfs := hide hfs
  replace hms := hide hms
  replace hac := hide hac
  replace hal := hide hal
  replace hpe := hide hpe
  clear hX2 hf0 hm0
  go_wp2_with fail
  refine (Six.frag_any (cl : Int) la ho true sh sl true dh dl X m xc proto es _ hX3.out hmL).mono ?_
  rintro e wf ⟨rfl, hbf⟩
  rw [hfs.out]
  have hXf := hX3.out.on hbf
  have hghf := blk_below hbf hz3 hgh.out
  have hchf := blk_cell hghf
  have hgf0 := blk_below hbf (by omega) hg03.out
  have hBf := hB3.out.trans (hbf.mono (by omega))
  have hif := hi3.out.on hbf
  have hzf := hbf.size
  clear hw3 hch hbf hB3 hg03 hi3 hX3
  replace hXf := hide hXf
  replace hghf := hide hghf
  replace hgf0 := hide hgf0
  replace hBf := hide hBf
  replace hif := hide hif
  go_wp2_with fail
  refine (Six.more_any (cl : Int) la ho true sh sl true dh dl X m xc proto es _ hXf.out hmL).mono ?_
  rintro e wm ⟨rfl, hbm⟩
  rw [hms.out]
  have hX3 := hXf.out.on hbm
  have hgh' := blk_below hbm (by omega) hghf.out
  have hchm := blk_cell hgh'
  have hg03 := blk_below hbm (by omega) hgf0.out
  have hB3 := hBf.out.trans (hbm.mono (by omega))
  have hi3 := hif.out.on hbm
  have hzm := hbm.size
  have hz3' : w2.heap.size < wm.heap.size := by omega
  have hB3z : w1.heap.size ≤ wm.heap.size := by omega
  clear hchf hbm hXf hgf0 hBf hif hghf hgh
  have hgh := hgh'
  clear hgh'
  replace hX3 := hide hX3
  replace hgh := hide hgh
  replace hg03 := hide hg03
  replace hB3 := hide hB3
  replace hi3 := hide hi3
  go_upto_region 6 with fail
  clear hchm hz3
  have hz3 := hz3'
  clear hz3'
  go_cut [7] (fun tv wx => ∃ g w5, tv = .pointer (some ⟨g, 0, none⟩) ∧ w5.heap[g]? = some (.cells (p6A proto sh sl dh dl ho (T + m1)) 34 (0, 0)) ∧ wm.heap.size ≤ g ∧ g < w5.heap.size ∧ Below wm.heap.size wm w5 ∧ w5 = wx)
  case first =>
    have hcl := fun (l : Later wm) (o : Nat) => blk_cell (blk_below l.hb hz3 hgh.out) o
    have hln := fun (l : Later wm) => Six.len_any (cl : Int) la ho true sh sl true dh dl X m xc proto es l.w (hX3.out.later l) hm8 heb.out T hTs.out
    replace hln := hide hln
    refine wp_region_L (by as_aux_lemma => kernel_rfl) ?_
    refine wpE_seg 0 15 (fuel := 2) (by as_aux_lemma => kernel_rfl) (fun d _ _ _ _ h => by cases d <;> exact h) (by as_aux_lemma => kernel_rfl) (by as_aux_lemma => kernel_rfl) ?_
    simp only [List.drop_zero, List.take_succ_cons, List.take_zero]
    iterate 10 (refine wpQE_step (fun K hK => ?_); go_simp; refine hK _ ?_; clear hK K)
    (refine wpQE_step (fun K hK => ?_); go_simp; apply Exists.intro; refine ⟨fun l => ?_, hK _ ?_⟩; (go_at_call 56; refine (hln.out l).mono ?_; rintro e w' ⟨rfl, hb⟩; exact ⟨rfl, hb⟩); clear hK K)
    iterate 4 (refine wpQE_step (fun K hK => ?_); go_simp; refine hK _ ?_; clear hK K)
    refine wpQE_nil ?_
    have q1 : IntKind.i64.wrap ((T : Int) + (m1 : Int)) = ((T + m1 : Nat) : Int) := by rw [wraps62 _ (by omega) (by omega)]; omega
    rw [q1]
    clear q1 hcl hln
    refine wpE_step 15 (fuel := 1) rfl (by as_aux_lemma => kernel_rfl) (fun l K hK => ?_)
    go_simp
    have zl := l.hb.size
    have hbl2 : Below l.w.heap.size l.w (l.w.alloc (.cells pkZ 34)) := (Below.refl _ _).alloc (Nat.le_refl _) _
    have hgp := blk_new l.w 34 pkZ
    have hzp : l.w.heap.size < (l.w.alloc (.cells pkZ 34)).heap.size := by simp
    refine hK _ _ hbl2 ?_
    clear hK K
    change wpE _ _ _ _ _ _ _ _ (l.w.alloc (.cells pkZ 34))
    generalize l.w.alloc (.cells pkZ 34) = w4 at hbl2 hgp hzp ⊢
    refine wpE_end (by as_aux_lemma => kernel_rfl) (fun l2 => ?_)
    have zl2 := l2.hb.size
    have hgp2 := blk_below l2.hb hzp hgp
    have hBl : Below wm.heap.size wm l2.w := (l.hb.trans (hbl2.mono zl)).trans (l2.hb.mono (by omega))
    refine wpT_st 16 rfl (by as_aux_lemma => kernel_rfl) rfl 34 (.tmp 7) (.tmp 42) rfl l.w.heap.size 0 rfl (p6A proto sh sl dh dl ho (T + m1)) rfl hgp2 (show 0 + 23 ≤ 23 by omega) size_pk (p6A_one _ _ _ _ _ _ _) fun w5 hg5 g5 => ?_
    rw [putA_whole pkZ (p6A proto sh sl dh dl ho (T + m1)) rfl] at hg5
    have hB5 := hBl.trans (below_grown g5 (by omega) (by omega))
    have z5 := g5.size
    clear g5
    replace hg5 := hide hg5
    replace hB5 := hide hB5
    replace hgp2 := hide hgp2
    replace hgp := hide hgp
    refine wpT_done (by as_aux_lemma => kernel_rfl) ?_ 0
    go_wp2_with fail
    go_meet
    exact ⟨l.w.heap.size, w5, rfl, hg5.out, by omega, by omega, hB5.out, rfl⟩
  case rest =>
  obtain ⟨g, w5, rfl, hg5, hgl, hgl2, hb5, rfl⟩ := hcut
  have z5 := hb5.size
  have hB5 := hB3.out.trans (hb5.mono (by omega))
  have hg05 := blk_below hb5 (by omega) hg03.out
  have hi5 := hi3.out.on hb5
  have hgh5 := blk_below hb5 hz3 hgh.out
  have hcl := fun (l : Later w5) (o : Nat) => blk_cell (blk_below l.hb (by omega) hgh5) o
  have hgl5 := fun (l : Later w5) => blk_below l.hb hgl2 hg5
  have hps := fun (l : Later w5) => Six.pseudo_any true sh sl true dh dl proto m1 proto m1 (by omega) (by rw [IntKind.wrap_u64]; omega) l.w hsh hsl hdh hdl (by omega)
  replace hB5 := hide hB5
  replace hg05 := hide hg05
  replace hi5 := hide hi5
  replace hgh5 := hide hgh5
  replace hg5 := hide hg5
  replace hb5 := hide hb5
  replace hgl5 := hide hgl5
  replace hps := hide hps
  go_upto_region 7 with fail
  refine wp_region_L (by as_aux_lemma => kernel_rfl) ?_
  refine wpE_seg 0 10 (fuel := 6) (by as_aux_lemma => kernel_rfl) (fun d _ _ _ _ h => by cases d <;> exact h) (by as_aux_lemma => kernel_rfl) (by as_aux_lemma => kernel_rfl) ?_
  simp only [List.drop_zero, List.take_succ_cons, List.take_zero]
  refine wpQE_ld rfl 34 (.tmp 7) rfl g rfl (p6A proto sh sl dh dl ho (T + m1)) _ hgl5.out Try.underlying34 rfl size_pk ?_
  generalize hpa : p6A proto sh sl dh dl ho (T + m1) = pa at hU
  iterate 9 (refine wpQE_step (fun K hK => ?_); go_simp; refine hK _ ?_; clear hK K)
  refine wpQE_nil ?_
  clear hcl
  refine wpE_step 10 (fuel := 5) rfl (by as_aux_lemma => kernel_rfl) (fun l K hK => ?_)
  go_simp
  go_at_call 67
  refine (hps.out l).mono ?_
  rintro e w6 ⟨v, rfl, hown, hb6⟩
  refine hK _ _ hb6 ?_
  clear hK K
  obtain ⟨pl, hpl⟩ : ∃ pl, (Six.pseudoB sh sl dh dl m1 proto).length = pl := ⟨_, rfl⟩
  have hown' : OwnB w6 l.w.heap.size v (Six.pseudoB sh sl dh dl m1 proto) := hown
  obtain ⟨A6, c6, rfl, hc6, hm6, hi6⟩ := hown'.form
  rw [hpl] at hi6 hc6 ⊢
  clear hown hown'
  refine wpE_step 11 (fuel := 4) rfl (by as_aux_lemma => kernel_rfl) (fun l2 K hK => ?_)
  go_simp
  have zl := l.hb.size
  have z6 := hb6.size
  have zl2 := l2.hb.size
  have hbw : Below w5.heap.size w5 l2.w := (l.hb.trans (hb6.mono zl)).trans (l2.hb.mono (by omega))
  have hUc := hU.out A2 A6 c2 c6 l2.w (by rw [hrm]; exact hi5.out.on hbw) (by rw [hpl]; exact hi6.on l2.hb) (by omega) hm2
  rw [hrm, hpl] at hUc
  have hg0l := blk_below hbw (by omega) hg05.out
  have hBl := hB5.out.trans (hbw.mono (by omega))
  clear hb6 hi6
  replace hUc := hide hUc
  replace hg0l := hide hg0l
  replace hBl := hide hBl
  replace hpl := hide hpl
  replace hpa := hide hpa
  replace hbw := hide hbw
  go_at_call 63
  refine hUc.out.mono ?_
  rintro e w7 ⟨rfl, hb7⟩
  obtain ⟨z, hz, hzs2, hzo⟩ : ∃ z, (if KK = 0 then y else pkZ) = z ∧ z.size = 23 ∧ z.all (·.oneCell') = true := by
    by_cases h : KK = 0
    · exact ⟨y, by rw [if_pos h], hy.out h⟩
    · exact ⟨pkZ, by rw [if_neg h], pkZ_size, pkZ_one⟩
  rw [hz]
  refine hK _ _ hb7 ?_
  clear hK K
  refine wpE_seg 12 2 (fuel := 2) (by as_aux_lemma => kernel_rfl) (fun d _ _ _ _ h => by cases d <;> exact h) (by as_aux_lemma => kernel_rfl) (by as_aux_lemma => kernel_rfl) ?_
  simp only [List.drop_succ_cons, List.drop_zero, List.take_succ_cons, List.take_zero]
  iterate 2 (refine wpQE_step (fun K hK => ?_); go_simp; refine hK _ ?_; clear hK K)
  refine wpQE_nil ?_
  refine wpE_end (by as_aux_lemma => kernel_rfl) (fun l3 => ?_)
  have z7 := hb7.size
  have zl3 := l3.hb.size
  have hg07 := blk_below l3.hb (by omega) (blk_below hb7 (by omega) hg0l.out)
  have hB7 := (hBl.out.trans (hb7.mono (by omega))).trans (l3.hb.mono (by omega))
  clear hb7
  replace hg07 := hide hg07
  replace hB7 := hide hB7
  replace hzo := hide hzo
  replace hz := hide hz
  refine wpT_st 14 rfl (by as_aux_lemma => kernel_rfl) rfl 34 (.tmp 2) (.tmp 55) rfl w.heap.size 0 rfl z rfl hg07.out (by rw [hzz, hzs2]; omega) (by rw [size_pk, hzs2]) hzo.out fun w9 hg9 g9 => ?_
  rw [putA_whole _ _ (by rw [hzz, hzs2])] at hg9
  have hB9 := hB7.out.trans (below_grown g9 (by omega) (by omega))
  have hld : (loadVar 34 ⟨w.heap.size, 0, none⟩).run Try.prog w9 = .ok (.agg z) w9 := by
    simpa using run_loadVar_mid w9 w.heap.size 0 34 z.toList _ (blk_range hg9) Try.underlying34 rfl (by rw [size_pk, Array.length_toList, hzs2])
  have hfin : End2 KK y w w9 (.returned (.tuple #[.agg z, .int .i64 (KK : Int)])) := ⟨by rw [hz.out], hB9⟩
  clear g9
  replace hg9 := hide hg9
  replace hB9 := hide hB9
  replace hfin := hide hfin
  replace hld := hide hld
  refine wpT_step 15 rfl (by as_aux_lemma => kernel_rfl) (fun K hK => ?_)
  go_simp
  refine hK _ _ ?_
  clear hK K
  refine wpT_done (by as_aux_lemma => kernel_rfl) ?_ 0
  go_wp2_with fail
  exact bodyPost_ret (v := .tuple #[.agg z, .int .i64 (KK : Int)]) (by simp [results, Try.results38, asAddr, hld.out, Result.andThen]) rfl hfin.out
set_option maxRecDepth 20000 in
set_option maxHeartbeats 16000000 in
theorem parse6_bad (n : Nat) (xs : List UInt8) (KK : Nat) (hK0 : KK ≠ 0) (hF : Tun.SixIs n xs KK 0 0 0 false 0 0 false 0 0 [] 0 0 []) (y : Array Value)
    (A : Option Addr) (c : Nat) (w : World) (hx : IsB w w.heap.size A n xs) (hnc : n ≤ c) (hcm : c ≤ maxLen) :
    Calls Try.prog 38 #[.slice A n c] w fun e w' => End2 KK y w w' e := by
  have t1 : ((KK : Int) == 0) = false := by rw [beq_eq_false_iff_ne]; omega
  obtain ⟨zs, hzs⟩ : ∃ zs, pkZ = zs := ⟨_, rfl⟩
  have hbz : Below w.heap.size w (w.alloc (.cells pkZ 34)) := (Below.refl _ _).alloc (Nat.le_refl _) _
  have hgz := blk_new w 34 pkZ
  obtain ⟨w1, hw1⟩ : ∃ w1, w.alloc (.cells pkZ 34) = w1 := ⟨_, rfl⟩
  have hz1 : w.heap.size < w1.heap.size := by rw [← hw1]; simp
  rw [hw1] at hbz hgz
  rw [hzs] at hgz
  unfold pkZ at hw1
  have hzz : zs.size = 23 := hzs ▸ pkZ_size
  have hFc := hF A c w1 (hx.on hbz) hnc hcm
  replace hx := hide hx
  replace hbz := hide hbz
  replace hgz := hide hgz
  replace hFc := hide hFc
  replace hF := hide hF
  replace hzs := hide hzs
  go_enter Try.func38, Try.ntmps38
  go_wp2_with fail
  refine hFc.out.mono ?_
  rintro e w2 ⟨X, m, xc, A2, c2, es, he, _, _, _, _, _, _, _, hb2⟩
  obtain ⟨z0, hz0⟩ : ∃ z0 : Int, ((0 : Nat) : Int) = z0 := ⟨_, rfl⟩
  obtain rfl : e = .returned (.tuple #[Six.hdV 0 0 0 false 0 0 false 0 0 X m xc z0, .slice A2 0 c2, .int .i64 (KK : Int)]) := by rw [← hz0]; exact he
  clear hz0
  have z2 := hb2.size
  obtain ⟨w3, hw3⟩ : ∃ w3, w2.alloc (Six.hdC 0 0 0 false 0 0 false 0 0 X m xc z0) = w3 := ⟨_, rfl⟩
  have hb23 : Below w2.heap.size w2 w3 := hw3 ▸ (Below.refl _ _).alloc (Nat.le_refl _) _
  have hgh : w3.heap[w2.heap.size]? = some (Six.hdC 0 0 0 false 0 0 false 0 0 X m xc z0) := hw3 ▸ blk_new _ _ _
  have hz3 : w2.heap.size < w3.heap.size := by rw [← hw3]; simp
  unfold Six.hdC at hgh hw3
  have hB3 := (hbz.out.trans (hb2.mono (by omega))).trans (hb23.mono (by omega))
  have hg03 := blk_below hb23 (by omega) (blk_below hb2 hz1 hgz.out)
  have hch := blk_cell hgh
  clear hw1 hb2 hb23
  unfold Six.hdV
  replace hgh := hide hgh
  replace hB3 := hide hB3
  replace hg03 := hide hg03
  go_upto_region 3 with fail
  clear hw3 hch
  apply wp_region_lit
  refine wpList_plain rfl fun K hK => ?_
  go_simp
  refine hK _ _ ?_
  clear hK K
  refine wpList_plain rfl fun K hK => ?_
  go_simp
  refine hK _ _ ?_
  clear hK K
  refine wpl_st rfl 34 (.tmp 2) (.tmp 17) rfl w.heap.size 0 rfl pkZ rfl hg03.out (by rw [hzz, pkZ_size]; omega) size_pk pkZ_one fun w9 hg9 g9 => ?_
  rw [putA_whole _ _ (by rw [hzz, pkZ_size])] at hg9
  have hB9 := hB3.out.trans (below_grown g9 (by omega) (by omega))
  have hld : (loadVar 34 ⟨w.heap.size, 0, none⟩).run Try.prog w9 = .ok (.agg pkZ) w9 := by
    simpa using run_loadVar_mid w9 w.heap.size 0 34 pkZ.toList _ (blk_range hg9) Try.underlying34 rfl (by rw [size_pk, Array.length_toList, pkZ_size])
  have hfin := end_bad (y := y) KK hK0 hB9
  clear g9
  replace hg9 := hide hg9
  replace hB9 := hide hB9
  replace hfin := hide hfin
  replace hld := hide hld
  refine wpList_plain rfl fun K hK => ?_
  go_simp
  refine hK _ _ ?_
  clear hK K
  refine wpList_nil ?_
  go_wp2_with fail
  exact bodyPost_ret (v := .tuple #[.agg pkZ, .int .i64 (KK : Int)]) (by simp [results, Try.results38, asAddr, hld.out, Result.andThen]) rfl hfin.out
set_option maxRecDepth 20000 in
set_option maxHeartbeats 16000000 in
theorem parse6_frag (n : Nat) (xs : List UInt8) (cl la ho sh sl dh dl : Nat) (acc : List (Int × List UInt8)) (proto m1 : Nat) (rest : List UInt8) (hF : Tun.SixIs n xs 0 cl la ho true sh sl true dh dl acc proto m1 rest) (hac : acc.length ≤ 8) (hfr : 0 < Six.fragP acc ∨ Six.moreP acc = true) (y : Array Value)
    (A : Option Addr) (c : Nat) (w : World) (hx : IsB w w.heap.size A n xs) (hnc : n ≤ c) (hcm : c ≤ maxLen) :
    Calls Try.prog 38 #[.slice A n c] w fun e w' => End2 21 y w w' e := by
  obtain ⟨zs, hzs⟩ : ∃ zs, pkZ = zs := ⟨_, rfl⟩
  have hbz : Below w.heap.size w (w.alloc (.cells pkZ 34)) := (Below.refl _ _).alloc (Nat.le_refl _) _
  have hgz := blk_new w 34 pkZ
  obtain ⟨w1, hw1⟩ : ∃ w1, w.alloc (.cells pkZ 34) = w1 := ⟨_, rfl⟩
  have hz1 : w.heap.size < w1.heap.size := by rw [← hw1]; simp
  rw [hw1] at hbz hgz
  rw [hzs] at hgz
  unfold pkZ at hw1
  have hzz : zs.size = 23 := hzs ▸ pkZ_size
  have hFc := hF A c w1 (hx.on hbz) hnc hcm
  replace hx := hide hx
  replace hbz := hide hbz
  replace hgz := hide hgz
  replace hFc := hide hFc
  replace hF := hide hF
  replace hzs := hide hzs
  replace hfr := hide hfr
  go_enter Try.func38, Try.ntmps38
  go_wp2_with fail
  refine hFc.out.mono ?_
  rintro e w2 ⟨X, m, xc, A2, c2, es, rfl, hpe, hX2, hmx, hxm, hi2, hc2, hm2, hb2⟩
  have z2 := hb2.size
  obtain ⟨w3, hw3⟩ : ∃ w3, w2.alloc (Six.hdC (cl : Int) la ho true sh sl true dh dl X m xc proto) = w3 := ⟨_, rfl⟩
  have hb23 : Below w2.heap.size w2 w3 := hw3 ▸ (Below.refl _ _).alloc (Nat.le_refl _) _
  have hgh : w3.heap[w2.heap.size]? = some (Six.hdC (cl : Int) la ho true sh sl true dh dl X m xc proto) := hw3 ▸ blk_new _ _ _
  have hz3 : w2.heap.size < w3.heap.size := by rw [← hw3]; simp
  unfold Six.hdC at hgh hw3
  have hB3 := (hbz.out.trans (hb2.mono (by omega))).trans (hb23.mono (by omega))
  have hg03 := blk_below hb23 (by omega) (blk_below hb2 hz1 hgz.out)
  have hX3 := hX2.on hb23
  have hel : es.length = m := hX2.1
  have hm8 : m ≤ 8 := by rw [← hel, ← Six.pes_length, hpe]; exact hac
  have hmL : m ≤ maxLen := by unfold maxLen; omega
  have hms : Six.moreP (Six.pes es) = Six.moreP acc := by rw [hpe]
  obtain ⟨f, hf⟩ : ∃ f, Six.fragP acc = f := ⟨_, rfl⟩
  have hfs : beN (Six.partB es) 1 2 / 8 = f := by rw [Six.pes_frag, hpe, hf]
  obtain ⟨mo, hmo⟩ : ∃ mo, Six.moreP acc = mo := ⟨_, rfl⟩
  have hfr' := hfr.out
  rw [hf, hmo] at hfr'
  rw [hmo] at hms
  have hch := blk_cell hgh
  clear hX2 hb2 hb23 hw1
  unfold Six.hdV
  replace hgh := hide hgh
  replace hB3 := hide hB3
  replace hg03 := hide hg03
  replace hX3 := hide hX3
  replace hms := hide hms
  replace hfs := hide hfs
  replace hac := hide hac
  replace hpe := hide hpe
  replace hf := hide hf
  replace hmo := hide hmo
  by_cases hf0 : 0 < f
  · have t2 : (0 : Int) < (f : Int) := by omega
    go_wp2_with fail
    refine (Six.frag_any (cl : Int) la ho true sh sl true dh dl X m xc proto es _ hX3.out hmL).mono ?_
    rintro e wf ⟨rfl, hbf⟩
    rw [hfs.out]
    have hg4 := blk_below hbf (by omega) hg03.out
    have hB4 := hB3.out.trans (hbf.mono (by omega))
    have hzf := hbf.size
    clear hw3 hch hbf hB3 hg03
    replace hg4 := hide hg4
    replace hB4 := hide hB4
    go_upto_region 5 with fail
    apply wp_region_lit
    refine wpList_plain rfl fun K hK => ?_
    go_simp
    refine hK _ _ ?_
    clear hK K
    refine wpl_st rfl 34 (.tmp 2) (.tmp 27) rfl w.heap.size 0 rfl pkZ rfl hg4.out (by rw [hzz, pkZ_size]; omega) size_pk pkZ_one fun w9 hg9 g9 => ?_
    rw [putA_whole _ _ (by rw [hzz, pkZ_size])] at hg9
    have hB9 := hB4.out.trans (below_grown g9 (by omega) (by omega))
    have hld : (loadVar 34 ⟨w.heap.size, 0, none⟩).run Try.prog w9 = .ok (.agg pkZ) w9 := by
      simpa using run_loadVar_mid w9 w.heap.size 0 34 pkZ.toList _ (blk_range hg9) Try.underlying34 rfl (by rw [size_pk, Array.length_toList, pkZ_size])
    have hfin := end_bad (y := y) 21 (by omega) hB9
    clear g9
    replace hg9 := hide hg9
    replace hB9 := hide hB9
    replace hfin := hide hfin
    replace hld := hide hld
    refine wpList_plain rfl fun K hK => ?_
    go_simp
    refine hK _ _ ?_
    clear hK K
    refine wpList_nil ?_
    go_wp2_with fail
    exact bodyPost_ret (v := .tuple #[.agg pkZ, .int .i64 (21 : Int)]) (by simp [results, Try.results38, asAddr, hld.out, Result.andThen]) rfl hfin.out
  · have t2 : ¬ (0 : Int) < (f : Int) := by omega
    obtain rfl : mo = true := by rcases hfr' with h | h; exact absurd h hf0; exact h
    go_wp2_with fail
    refine (Six.frag_any (cl : Int) la ho true sh sl true dh dl X m xc proto es _ hX3.out hmL).mono ?_
    rintro e wf ⟨rfl, hbf⟩
    rw [hfs.out]
    have hXf := hX3.out.on hbf
    have hghf := blk_below hbf hz3 hgh.out
    have hchf := blk_cell hghf
    have hgf0 := blk_below hbf (by omega) hg03.out
    have hBf := hB3.out.trans (hbf.mono (by omega))
    have hzf := hbf.size
    clear hw3 hch hbf hB3 hg03 hX3
    replace hXf := hide hXf
    replace hghf := hide hghf
    replace hgf0 := hide hgf0
    replace hBf := hide hBf
    go_wp2_with fail
    refine (Six.more_any (cl : Int) la ho true sh sl true dh dl X m xc proto es _ hXf.out hmL).mono ?_
    rintro e wm ⟨rfl, hbm⟩
    rw [hms.out]
    have hg4 := blk_below hbm (by omega) hgf0.out
    have hB4 := hBf.out.trans (hbm.mono (by omega))
    have hzm := hbm.size
    clear hchf hbm hXf hgf0 hBf
    replace hg4 := hide hg4
    replace hB4 := hide hB4
    go_upto_region 5 with fail
    apply wp_region_lit
    refine wpList_plain rfl fun K hK => ?_
    go_simp
    refine hK _ _ ?_
    clear hK K
    refine wpl_st rfl 34 (.tmp 2) (.tmp 27) rfl w.heap.size 0 rfl pkZ rfl hg4.out (by rw [hzz, pkZ_size]; omega) size_pk pkZ_one fun w9 hg9 g9 => ?_
    rw [putA_whole _ _ (by rw [hzz, pkZ_size])] at hg9
    have hB9 := hB4.out.trans (below_grown g9 (by omega) (by omega))
    have hld : (loadVar 34 ⟨w.heap.size, 0, none⟩).run Try.prog w9 = .ok (.agg pkZ) w9 := by
      simpa using run_loadVar_mid w9 w.heap.size 0 34 pkZ.toList _ (blk_range hg9) Try.underlying34 rfl (by rw [size_pk, Array.length_toList, pkZ_size])
    have hfin := end_bad (y := y) 21 (by omega) hB9
    clear g9
    replace hg9 := hide hg9
    replace hB9 := hide hB9
    replace hfin := hide hfin
    replace hld := hide hld
    refine wpList_plain rfl fun K hK => ?_
    go_simp
    refine hK _ _ ?_
    clear hK K
    refine wpList_nil ?_
    go_wp2_with fail
    exact bodyPost_ret (v := .tuple #[.agg pkZ, .int .i64 (21 : Int)]) (by simp [results, Try.results38, asAddr, hld.out, Result.andThen]) rfl hfin.out
end Pkt
end Go.Proofs.Ytfmmmjaficbchaa
/- A struct that a call hands back is kept in a new variable. No condition. -/
namespace Go.Proofs.Ytfmmmjaficbchaa
open Go.RowKit Go.ChangeShapes Go.WideShapes Go.ChangeAt Go.Deep
section
variable {P : Program} {ops : Array Oper} {rest : List Oper} {a : Act} {w : World} {Q : Exit → Act → World → Prop}
/-- A new variable of a struct's type, and a whole struct stored into it. -/
theorem wpl_new {oa os : Oper} (hga : oa.guard = none) (hgs : os.guard = none) (T : TypeId) (zs : Array Value)
    (hal : ∀ (ρ : Operand → Value) (w : World), (execOp ρ oa).run P w = .ok (.value (.pointer (some ⟨w.heap.size, 0, none⟩))) (w.alloc (.cells zs T)))
    (d : Nat) (hd : oa.dst = some d) (y : Operand) (ho : os.op = .store T (.tmp d) y) (vs : Array Value) (hy : ∀ w : World, (a.put (some d) (.pointer (some ⟨w.heap.size, 0, none⟩))).eval y = .agg vs)
    (hdd : ∀ w : World, (a.put (some d) (.pointer (some ⟨w.heap.size, 0, none⟩))).eval (.tmp d) = .pointer (some ⟨w.heap.size, 0, none⟩))
    (hn : vs.size = zs.size) (hi : (P.info? T).map (·.size) = some vs.size) (h1 : vs.all (·.oneCell') = true)
    (h : ∀ w', w'.heap[w.heap.size]? = some (.cells vs T (0, 0)) → Below w.heap.size w w' → w.heap.size < w'.heap.size → wpList P ops Q rest ((a.put (some d) (.pointer (some ⟨w.heap.size, 0, none⟩))).put os.dst undef) w') : wpList P ops Q (oa :: os :: rest) a w := by
  refine Go.Great.wpList_runTo hga (some d) hd _ _ (hal _ _) ?_
  have hb := blk_new w T zs
  refine wpl_st hgs T (.tmp d) y ho w.heap.size 0 (hdd w) vs (hy w) hb (by omega) hi h1 fun w' h2 h3 => ?_
  rw [putA_whole _ _ hn.symm] at h2
  have hs := h3.size
  simp only [World.size_alloc] at hs
  exact h w' h2 (((Below.refl _ _).alloc (Nat.le_refl _) _).trans (below_grown h3 (by simp) (by omega))) (by omega)
end
namespace Pkt
theorem alloc_pk (o : Oper) (h : o.op = .alloc 34) (ρ : Operand → Value) (w : World) : (execOp ρ o).run Try.prog w = .ok (.value (.pointer (some ⟨w.heap.size, 0, none⟩))) (w.alloc (.cells pkZ 34)) := by
  obtain ⟨d, op, t, ps, af, g⟩ := o
  dsimp only at h
  subst h
  kernel_rfl
theorem End2.letter {K : Nat} {y : Array Value} {w w' : World} {e : Ending} (h : End2 K y w w' e) (hy : K = 0 → y.size = 23 ∧ y.all (·.oneCell') = true) :
    ∃ z, e = .returned (.tuple #[.agg z, .int .i64 (K : Int)]) ∧ z.size = 23 ∧ z.all (·.oneCell') = true ∧ (if K = 0 then y else pkZ) = z ∧ Below w.heap.size w w' := by
  refine ⟨_, h.1, ?_, ?_, rfl, h.2⟩
  · split
    · exact (hy (by assumption)).1
    · exact pkZ_size
  · split
    · exact (hy (by assumption)).2
    · exact pkZ_one
end Pkt
end Go.Proofs.Ytfmmmjaficbchaa
