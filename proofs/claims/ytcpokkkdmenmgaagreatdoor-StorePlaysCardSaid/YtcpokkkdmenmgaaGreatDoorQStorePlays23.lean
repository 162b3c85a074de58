/- store, the law: the document's store: commit. Conditions: texts of at most 65536 bytes, fewer than 2^40 changes. -/
import Derived.Test.YtcpokkkdmenmgaaGreatDoorQStorePlays22
import Derived.Test.YtcpokkkdmenmgaaGreatDoorQStorePlays21
namespace Go.Proofs.YtcpokkkdmenmgaaGreatDoor
open Go.RowKit Go.ChangeShapes Go.WideShapes Go.ChangeAt Go.Deep
section
variable {P : Program} {ops : Array Oper} {R : World → World → Prop} {w0 : World} {Q : Act → Prop} {a : Act} {op : Oper} {rest : List Oper}
theorem wpQX_load (hgd : op.guard = none) (ty : TypeId) (x : Operand) (ho : op.op = .load ty x) (b o : Nat) (hx : a.eval x = .pointer (some ⟨b, o, none⟩)) (cs : List Value) (d : TypeDesc)
    (hS : ∀ l : RelW R w0, l.w.rangeAt b o cs) (hu : P.underlying ty = some d) (hd : d.isRow = true) (hi : (P.info? ty).map (·.size) = some cs.length)
    (h : wpQF P ops R w0 Q rest (a.put op.dst (.agg cs.toArray))) : wpQF P ops R w0 Q (op :: rest) a := wpQX_step fun K hK => by
  rw [if_pos (by simp [Region.wanted, hgd])]
  refine ⟨.agg cs.toArray, fun l => ?_, hK _ h⟩
  unfold execOp
  simp only [ho, hx, Instr.loadAt, Instr.sureAddr, Sem.run_bind, Sem.run_pure, Result.andThen_ok, run_loadVar_mid l.w b o ty cs d (hS l) hu hd hi]
  exact ⟨rfl, rfl⟩
end
namespace Store20
open Conf18 (Nd Vp Vw Cfg zA MapI lt_of_blk cfC alloc_cf cf_one)
open Addr05 (Adr MaxAt)
open Val19
theorem alloc_wo (o : Oper) (h : o.op = .alloc 40) (ρ : Operand → Value) (w : World) : (execOp ρ o).run Tryz.prog w = .ok (.value (.pointer (some ⟨w.heap.size, 0, none⟩))) (w.alloc (.cells #[.int .i64 0, .string ⟨#[]⟩, .string ⟨#[]⟩, .int .i64 0] 40)) := by
  obtain ⟨d, op, t, ps, af, g⟩ := o
  dsimp only at h
  subst h
  kernel_rfl
theorem wo_one (k : Int) (a b : ByteArray) (c : Int) : (#[.int .i64 k, .string a, .string b, .int .i64 c] : Array Value).all (·.oneCell') = true := all_oneCell_toArray (by
  intro u hu
  simp only [List.mem_cons, List.not_mem_nil, or_false] at hu
  rcases hu with rfl | rfl | rfl | rfl <;> rfl)
theorem plA_range {w : World} {p : Nat} {P : Pl} {a1 a2 a3 sv wv : Value} {T : TypeId} (h : w.heap[p]? = some (.cells (plA P a1 a2 a3 sv wv) T (0, 0))) : w.rangeAt p 0 (cfC P.c a1 a2 a3).toList := range_of h
theorem PlC.max {w : World} {base p : Nat} {a1 a2 a3 sv wv : Value} {P : Pl} (h : PlC w base p a1 a2 a3 sv wv P) (hM : MaxAt w) : p ≠ 0 := by
  intro e
  obtain ⟨m, hm⟩ := hM
  have h2 := blk_cell h.blk 0
  rw [e, hm] at h2
  obtain ⟨B, k, e2, -, -, -⟩ := own_isv h.rows.nodes
  subst e2
  unfold plA cfC at h2
  cases h2
theorem PlC.keptX {w w' : World} {base p x : Nat} {a1 a2 a3 sv wv : Value} {P : Pl} {cs : Array Value} (h : PlC w base p a1 a2 a3 sv wv P) (hx : w.heap[x]? = some (.cells cs 37 (0, 0))) (hb : KeptS w.heap.size (fun k => k = x) w w') (hne : p ≠ x) : PlC w' base p a1 a2 a3 sv wv P :=
  ⟨(hb.block p h.lt hne).trans h.blk, h.rows.keptP hb (fun k hk => by subst hk; exact h.rows.no hx ⟨by decide, by decide, by decide, by decide, by decide⟩), h.hb⟩
def PcTo (w w' : World) (base p : Nat) (wv : Value) (P' : Pl) : Prop := PlTo w w' base p wv P'
set_option maxRecDepth 20000 in
set_option maxHeartbeats 16000000 in
theorem pcommit_any {base p : Nat} {a1 a2 a3 sv wv : Value} (P : Pl) (w : World) (h : PlC w base p a1 a2 a3 sv wv P) (hok : P.ok) (hgen : P.gen + P.wait.length < big) (hn : P.sets.length + P.wait.length < big) (hM : MaxAt w) (hcs : ∀ c ∈ P.wait, c.text.length ≤ 65536) :
    Calls Tryz.prog 22 #[.pointer (some ⟨p, 0, none⟩)] w fun e w' => e = .returned (.int .i64 (commitP P).2) ∧ PlTo w w' base p wv (commitP P).1 := by
  obtain ⟨X, hX⟩ : ∃ X, commitP P = X := ⟨_, rfl⟩
  rw [hX]
  unfold commitP at hX
  have k14 := blk_cell h.blk 14
  have k15 := blk_cell h.blk 15
  unfold plA cfC at k14 k15
  by_cases hm : P.made = true
  case neg =>
    have hm2 : P.made = false := by simpa using hm
    rw [if_pos (.inl hm2)] at hX
    subst hX
    rw [hm2] at k15
    clear hM hcs
    replace h := hide h
    replace hok := hide hok
    go_enter Tryz.func22, Tryz.ntmps22
    go_wp2_with fail
    go_ret
    exact ⟨rfl, h.out.same (Below.refl _ _)⟩
  by_cases ho : P.op = true
  case neg =>
    have ho2 : P.op = false := by simpa using ho
    rw [if_pos (.inr ho2)] at hX
    subst hX
    rw [hm] at k15
    rw [ho2] at k14
    clear hM hcs
    replace h := hide h
    replace hok := hide hok
    go_enter Tryz.func22, Tryz.ntmps22
    go_wp2_with fail
    go_ret
    exact ⟨rfl, h.out.same (Below.refl _ _)⟩
  rw [if_neg (by rw [hm, ho]; decide)] at hX
  rw [hm] at k15
  rw [ho] at k14
  obtain ⟨A1, c1, e1, -, -, -⟩ := own_isv h.rows.nodes
  obtain ⟨A2, c2, e2, -, -, -⟩ := own_isv h.rows.vips
  obtain ⟨A3, c3, e3, -, -, -⟩ := own_isv h.rows.views
  obtain ⟨A4, c4, e4, -, -, -⟩ := own_isv h.rows.sets
  subst e1 e2 e3 e4
  have f14 := blk_free h.blk 14
  obtain ⟨w1, hw1⟩ : ∃ w1, w.setCell ⟨p, 14, none⟩ (.bool false) = w1 := ⟨_, rfl⟩
  obtain ⟨hg1, hk1⟩ := keptS_cell h.blk hw1
  have hr1 := h.own hk1
  have h1 : PlC w1 base p _ _ _ _ wv { P with op := false } := ⟨hg1, ⟨hr1.nodes, hr1.vips, hr1.views, hr1.sets, hr1.wait⟩, h.hb⟩
  have hpz := h.lt
  have hM1 : MaxAt w1 := StC.maxAt hM hk1 (fun e => by
    obtain ⟨m, hm⟩ := hM
    have h2 := blk_cell h.blk 0
    rw [← e] at h2
    rw [hm] at h2
    unfold plA cfC at h2
    cases h2)
  have hz1 := hk1.size
  clear hM hg1 hr1
  replace h := hide h
  replace h1 := hide h1
  replace hM1 := hide hM1
  replace hk1 := hide hk1
  replace hcs := hide hcs
  replace hX := hide hX
  replace hok := hide hok
  replace hm := hide hm
  replace ho := hide ho
  go_enter Tryz.func22, Tryz.ntmps22
  go_upto_region 4 with fail
  clear k14 k15 f14 hw1
  refine wp_region_X (Below w1.heap.size) (by as_aux_lemma => kernel_rfl) ?_
  intro w2 hbd
  have h2 := h1.out.below hbd
  have hM2 := hM1.out.below hbd
  have hk2 : KeptS w.heap.size (fun k => k = p) w w2 := keptS_trans _ _ _ _ _ hk1.out (keptS_of_below hbd hz1)
  have l12 := fun l : RelW (Below w1.heap.size) w2 => blk_cell (blk_below l.hk h1.out.lt h2.blk) 12
  have l16 := fun l : RelW (Below w1.heap.size) w2 => blk_cell (blk_below l.hk h1.out.lt h2.blk) 16
  unfold plA cfC at l12 l16
  clear h1 hM1 hk1 hbd
  replace h2 := hide h2
  replace hM2 := hide hM2
  replace hk2 := hide hk2
  refine wpX_seg (Below w1.heap.size) 0 9 (fuel := 0) (by as_aux_lemma => kernel_rfl) (fun d _ _ _ _ h => by cases d <;> exact h) (by as_aux_lemma => kernel_rfl) (by as_aux_lemma => kernel_rfl) ?_
  simp only [List.drop_zero, List.take_succ_cons, List.take_zero]
  iterate 9 (refine wpQX_step (fun K hK => ?_); go_simp; refine hK _ ?_; clear hK K)
  refine wpQF_nil ?_
  clear l12 l16
  refine wpF_done (by as_aux_lemma => kernel_rfl) ?_ 0
  by_cases hg : P.fr = P.gen
  case neg =>
    have hX1 := hX.out
    rw [if_pos hg] at hX1
    subst hX1
    have hne : ((P.fr : Int) != (P.gen : Int)) = true := by rw [bne_iff_ne]; omega
    go_wp2_with fail
    go_ret
    exact ⟨rfl, _, _, _, _, h2.out, hk2.out⟩
  have hX1 := hX.out
  rw [if_neg (fun h => h hg)] at hX1
  have hge : ((P.fr : Int) != (P.gen : Int)) = false := by rw [hg]; simp
  clear hX
  replace hX1 := hide hX1
  go_upto_region 6 with fail
  clear hge
  have hz2 := hk2.out.size
  refine wp_region_X (Below w2.heap.size) (by as_aux_lemma => kernel_rfl) ?_
  intro w3 hbd
  have h3 := h2.out.below hbd
  have hM3 := hM2.out.below hbd
  have hz3 := hbd.size
  have hk3 : KeptS w.heap.size (fun k => k = p) w w3 := keptS_trans _ _ _ _ _ hk2.out (keptS_of_below hbd hz2)
  have lr := fun l : RelW (Below w2.heap.size) w3 => plA_range (blk_below l.hk h2.out.lt h3.blk)
  have l11 := fun l : RelW (Below w2.heap.size) w3 => (show l.w.cell? ⟨p, 11, none⟩ = some (.bool P.has) from blk_cell (blk_below l.hk h2.out.lt h3.blk) 11)
  have l12 := fun l : RelW (Below w2.heap.size) w3 => (show l.w.cell? ⟨p, 12, none⟩ = some (.int .i64 (P.gen : Int)) from blk_cell (blk_below l.hk h2.out.lt h3.blk) 12)
  have l13 := fun l : RelW (Below w2.heap.size) w3 => (show l.w.cell? ⟨p, 13, none⟩ = some (.slice A4 P.sets.length c4) from blk_cell (blk_below l.hk h2.out.lt h3.blk) 13)
  clear h2 hM2 hk2 hbd
  replace h3 := hide h3
  replace hM3 := hide hM3
  replace hk3 := hide hk3
  replace lr := hide lr
  refine wpX_seg (Below w2.heap.size) 0 16 (fuel := 3) (by as_aux_lemma => kernel_rfl) (fun d _ _ _ _ h => by cases d <;> exact h) (by as_aux_lemma => kernel_rfl) (by as_aux_lemma => kernel_rfl) ?_
  simp only [List.drop_zero, List.take_succ_cons, List.take_zero]
  iterate 3 (refine wpQX_step (fun K hK => ?_); go_simp; refine hK _ ?_; clear hK K)
  refine wpQX_load rfl 34 (.tmp 33) rfl p 0 rfl _ _ lr.out Tryz.underlying34 rfl (by kernel_rfl) ?_
  simp only [Array.toArray_toList]
  unfold cfC
  go_simp
  iterate 12 (refine wpQX_step (fun K hK => ?_); go_simp; refine hK _ ?_; clear hK K)
  refine wpQF_nil ?_
  clear l11 l12 l13
  refine wpF_step 16 rfl (by as_aux_lemma => kernel_rfl) (fun K hK => ?_)
  go_simp
  refine hK _ _ (IsRel.refl _) ?_
  clear hK K
  refine wpF_step 17 rfl (by as_aux_lemma => kernel_rfl) (fun K hK => ?_)
  go_simp
  refine hK _ _ ((Below.refl _ _).alloc (by omega) _) ?_
  clear hK K
  obtain ⟨w4, hw4⟩ : ∃ w4, w3.alloc (.cells (plA (startX P) (.slice A1 P.c.nodes.length c1) (.slice A2 P.c.vips.length c2) (.slice A3 P.c.views.length c3) (.slice A4 P.sets.length c4) (.slice none 0 0)) 37) = w4 := ⟨_, rfl⟩
  have hb4 : Below w3.heap.size w3 w4 := hw4 ▸ (Below.refl _ _).alloc (Nat.le_refl _) _
  have hg4 : w4.heap[w3.heap.size]? = some (.cells (plA (startX P) (.slice A1 P.c.nodes.length c1) (.slice A2 P.c.vips.length c2) (.slice A3 P.c.views.length c3) (.slice A4 P.sets.length c4) (.slice none 0 0)) 37 (0, 0)) := hw4 ▸ blk_new _ _ _
  change wpF _ _ _ _ _ _ _ _ (w3.alloc (.cells (plA (startX P) (.slice A1 P.c.nodes.length c1) (.slice A2 P.c.vips.length c2) (.slice A3 P.c.views.length c3) (.slice A4 P.sets.length c4) (.slice none 0 0)) 37))
  rw [hw4]
  have h4 := h3.out.below hb4
  have hM4 := hM3.out.below hb4
  have hk4 : KeptS w.heap.size (fun k => k = p) w w4 := keptS_trans _ _ _ _ _ hk3.out (keptS_of_below hb4 (by omega))
  have hx4 : PlC w4 base w3.heap.size (.slice A1 P.c.nodes.length c1) (.slice A2 P.c.vips.length c2) (.slice A3 P.c.views.length c3) (.slice A4 P.sets.length c4) (.slice none 0 0) (startX P) := ⟨hg4, ⟨h4.rows.nodes, h4.rows.vips, h4.rows.views, h4.rows.sets, World.ownsRow_nil _ _ _ _⟩, by have := h.out.hb; omega⟩
  obtain ⟨x, hx⟩ : ∃ x, w3.heap.size = x := ⟨_, rfl⟩
  rw [hx] at hx4 hz3 ⊢
  obtain ⟨A, cap, hwv, b1, b2, -⟩ := own_isv h4.rows.wait
  subst hwv
  clear hw4 hb4 hg4 h3 hM3 hk3
  replace h4 := hide h4
  replace hM4 := hide hM4
  replace hk4 := hide hk4
  replace hx4 := hide hx4
  refine wpF_step 18 rfl (by as_aux_lemma => kernel_rfl) (fun K hK => ?_)
  go_simp
  refine hK _ _ (IsRel.refl _) ?_
  clear hK K
  refine wpF_done (by as_aux_lemma => kernel_rfl) ?_ 0
  obtain ⟨L, hL⟩ : ∃ L, P.wait.length = L := ⟨_, rfl⟩
  dsimp only at b1
  rw [hL] at hgen hn b1
  have hst : (startX P).ok := ⟨hok.out.v, hok.out.len⟩
  replace hst := hide hst
  go_wp2_with fail
  go_loopw [4, 5, 6] (fun iv _ _ wr => ∃ (i : Nat) (X1 : Pl) (b1 b2 b3 bs : Value), i ≤ L ∧ iv = .int .i64 (i : Int) ∧ runP (startX P) (P.wait.take i) = .ok X1 ∧ PlC wr base x b1 b2 b3 bs (.slice none 0 0) X1 ∧ X1.ok ∧ X1.gen ≤ P.gen + i ∧ X1.sets.length ≤ P.sets.length + i ∧ PlC wr base p (.slice A1 P.c.nodes.length c1) (.slice A2 P.c.vips.length c2) (.slice A3 P.c.views.length c3) (.slice A4 P.sets.length c4) (.slice A P.wait.length cap) { P with op := false } ∧ MaxAt wr ∧ KeptS w.heap.size (fun k => k = p) w wr) (fun iv _ _ _ => L - (intOf iv).toNat)
  case atStart => exact ⟨0, startX P, _, _, _, _, by omega, rfl, by rw [List.take_zero]; rfl, hx4.out, hst.out, Nat.le_refl _, Nat.le_refl _, h4.out, hM4.out, hk4.out⟩
  case round =>
    obtain ⟨i, X1, b1, b2, b3, bs, hil, rfl, hrun, hXr, hXo, hXg, hXs, hPr, hMr, hkr⟩ := hrel
    have hzr := hkr.size
    by_cases hin : i < L
    · have hlt : (i : Int) < (L : Int) := by omega
      obtain ⟨A9, cap9, e9, -, -, hIV⟩ := own_isv hPr.rows.wait
      cases e9
      obtain ⟨b, off, o, rfl, hbk, hni, hcell⟩ := IsT.at (f := woC) (size := 4) (fun _ => rfl) (by decide) (⟨rfl, hIV⟩ : IsT woC 4 wr wr.heap.size A P.wait.length P.wait) (i := i) (by omega)
      have wi1 : IntKind.i64.wrap ((i : Int) + 1) = ((i + 1 : Nat) : Int) := by rw [wraps62 _ (by omega) (by unfold big at hgen; omega)]; omega
      have hol := hcs.out o (List.mem_of_getElem? hni)
      have hNx := fun h => runP_next hrun hni h
      have hEr := fun h => runP_err hrun hni h
      have hgn := chP_n X1 o
      have hok2 := chP_ok hXo hol
      have k17 := (show wr.cell? ⟨p, 17, none⟩ = some (.slice (some ⟨b, off, none⟩) P.wait.length cap) from blk_cell hPr.blk 17)
      rw [hL] at k17
      clear hIV hni hrun
      obtain ⟨ok, ot, on, ow⟩ := o
      dsimp only at hol
      have y0 : wr.cell? ⟨b, off + i * 4, none⟩ = some (.int .i64 ok) := hcell 0 _ rfl
      have y1 : wr.cell? ⟨b, off + i * 4 + 1, none⟩ = some (.string (str ot)) := hcell 1 _ rfl
      have y2 : wr.cell? ⟨b, off + i * 4 + 2, none⟩ = some (.string (str on)) := hcell 2 _ rfl
      have y3 : wr.cell? ⟨b, off + i * 4 + 3, none⟩ = some (.int .i64 ow) := hcell 3 _ rfl
      clear hcell
      replace hNx := hide hNx
      replace hEr := hide hEr
      replace hXr := hide hXr
      replace hPr := hide hPr
      replace hMr := hide hMr
      replace hkr := hide hkr
      replace hXo := hide hXo
      replace hok2 := hide hok2
      go_upto_region 10 with fail
      apply wp_region_lit
      iterate 7 (refine wpList_plain rfl fun K hK => ?_; go_simp; refine hK _ _ ?_; clear hK K)
      refine wpl_new rfl rfl 40 _ (alloc_wo _ rfl) 5 rfl (.tmp 64) rfl _ (fun _ => rfl) (fun _ => rfl) rfl (by kernel_rfl) (wo_one ok (str ot) (str on) ow) ?_
      intro w5 hg5 hb5 hz5
      refine wpList_nil ?_
      go_simp
      have hX5 := hXr.out.below hb5
      have hP5 := hPr.out.below hb5
      have hM5 := hMr.out.below hb5
      have hk5 : KeptS w.heap.size (fun k => k = p) w w5 := keptS_trans _ _ _ _ _ hkr.out (keptS_of_below hb5 hzr)
      have d0 := blk_cell hg5 0
      have d1 := blk_cell hg5 1
      have d2 := blk_cell hg5 2
      have d3 := blk_cell hg5 3
      clear y0 y1 y2 y3 k17 hXr hPr hMr hkr hb5 hg5
      have qL := pload_any X1 ot hol w5 hX5 (by omega) hM5
      have qE := pload_any X1 [] (by decide) w5 hX5 (by omega) hM5
      have qW := pweight_any X1 on ow w5 hX5 (by omega) (by omega) hXo.out.len (fun hh => hXo.out.tree hh)
      rw [show str [] = ⟨#[]⟩ from rfl] at qE
      have ez : ((str on).toList == []) = decide (on = []) := by
        rw [show (str on).toList = on by simp [str, ByteArray.toList_eq]]
        rcases on with _ | ⟨a, l⟩ <;> rfl
      obtain ⟨bn, hbn⟩ : ∃ b, decide (on = []) = b := ⟨_, rfl⟩
      rw [hbn] at ez
      obtain ⟨ev, hev⟩ : ∃ e, (chP X1 ⟨ok, ot, on, ow⟩).2 = e := ⟨_, rfl⟩
      obtain ⟨X2, hX2⟩ : ∃ r, (chP X1 ⟨ok, ot, on, ow⟩).1 = r := ⟨_, rfl⟩
      have hz5' : w.heap.size ≤ w5.heap.size := by omega
      replace hX5 := hide hX5
      replace hP5 := hide hP5
      replace hM5 := hide hM5
      replace hk5 := hide hk5
      replace qL := hide qL
      replace qE := hide qE
      replace qW := hide qW
      go_upto_if 67 with fail
      go_cut [6] (fun fv wx => fv = .int .i64 ev ∧ PlTo w5 wx base x (.slice none 0 0) X2)
      case first =>
        by_cases hk3 : ok = 3
        · have e9 : chP X1 ⟨ok, ot, on, ow⟩ = ((loadP X1 ot).1, (loadP X1 ot).2.2) := if_pos hk3
          rw [e9] at hev hX2
          dsimp only at hev hX2
          have q := qL.out
          rw [hX2, hev] at q
          subst hk3
          clear e9 hev qL qE qW
          replace q := hide q
          go_wp2_with fail
          refine (q.out).mono ?_
          rintro e w6 ⟨rfl, h6⟩
          clear q
          replace h6 := hide h6
          go_wp2_with fail
          go_meet
          exact ⟨rfl, h6.out⟩
        have hk3' : (ok == 3) = false := by simpa using hk3
        cases bn
        · have e9 : chP X1 ⟨ok, ot, on, ow⟩ = ((weightP X1 on ow).1, ((weightP X1 on ow).2 : Int)) := (if_neg hk3).trans (if_neg (of_decide_eq_false hbn))
          rw [e9] at hev hX2
          dsimp only at hev hX2
          have q := qW.out
          rw [hX2] at q
          obtain ⟨m, hm2⟩ : ∃ m, (weightP X1 on ow).2 = m := ⟨_, rfl⟩
          rw [hm2] at q hev
          subst hev
          clear e9 hm2 qL qE qW
          replace q := hide q
          go_wp2_with fail
          refine (q.out).mono ?_
          rintro e w6 ⟨rfl, h6⟩
          clear q
          replace h6 := hide h6
          go_wp2_with fail
          go_meet
          exact ⟨rfl, h6.out⟩
        · have e9 : chP X1 ⟨ok, ot, on, ow⟩ = ((loadP X1 []).1, (loadP X1 []).2.2) := (if_neg hk3).trans (if_pos (of_decide_eq_true hbn))
          rw [e9] at hev hX2
          dsimp only at hev hX2
          have q := qE.out
          rw [hX2, hev] at q
          clear e9 hev qL qE qW
          replace q := hide q
          go_wp2_with fail
          refine (q.out).mono ?_
          rintro e w6 ⟨rfl, h6⟩
          clear q
          replace h6 := hide h6
          go_wp2_with fail
          go_meet
          exact ⟨rfl, h6.out⟩
      case rest =>
      obtain ⟨rfl, d1', d2', d3', ds', hX6, hk6⟩ := hcut
      have hpx : p ≠ x := by omega
      have hP6 := hP5.out.keptX hX5.out.blk hk6 hpx
      have hM6 := StC.maxAt hM5.out hk6 (fun e => hX5.out.max hM5.out e.symm)
      have hkc : KeptS w.heap.size (fun k => k = p) w wc := keptS_trans _ _ _ _ _ hk5.out (keptS_less hk6 hz5' (fun k hk e => by omega))
      have hNx2 := hNx.out
      have hEr2 := hEr.out
      have hok3 := hok2.out
      rw [hev, hX2] at hNx2
      rw [hev] at hEr2
      rw [hX2] at hgn hok3
      clear hk6 hNx hEr hX5 hP5 hM5 hk5 qL qE qW ez hbn d0 d1 d2 d3 hev hX2 hok2 hXo
      replace hX6 := hide hX6
      replace hP6 := hide hP6
      replace hM6 := hide hM6
      replace hkc := hide hkc
      replace hNx2 := hide hNx2
      replace hEr2 := hide hEr2
      replace hok3 := hide hok3
      by_cases he : ev = 0
      case neg =>
        have hXX := hX1.out
        rw [hEr2.out he] at hXX
        dsimp only at hXX
        subst hXX
        have hne9 : (ev != 0) = true := by rw [bne_iff_ne]; exact he
        clear hNx2 hEr2
        go_wp2_with fail
        go_ret
        have h9 := hP6.out
        rw [hL, hg] at h9
        exact ⟨rfl, _, _, _, _, h9, hkc.out⟩
      case pos =>
        have hrun2 := hNx2.out he
        subst he
        clear hNx2 hEr2
        replace hrun2 := hide hrun2
        go_wp2_with fail
        exact ⟨⟨i + 1, X2, d1', d2', d3', ds', by omega, by first | rfl | go_num, hrun2.out, hX6.out, hok3.out, by omega, by omega, hP6.out, hM6.out, hkc.out⟩, by simp only [intOf]; omega⟩
    · obtain rfl : i = L := by omega
      have hlt : ((i : Int) < (i : Int)) = False := by simp
      have hXX := hX1.out
      rw [← hL, List.take_length] at hrun
      rw [hrun] at hXX
      dsimp only at hXX
      subst hXX
      have k17 := (show wr.cell? ⟨p, 17, none⟩ = some (.slice A P.wait.length cap) from blk_cell hPr.blk 17)
      rw [hL] at k17
      have hpx : p ≠ x := by omega
      obtain ⟨B1, j1, e1, -, -, -⟩ := own_isv hXr.rows.nodes
      obtain ⟨B2, j2, e2, -, -, -⟩ := own_isv hXr.rows.vips
      obtain ⟨B3, j3, e3, -, -, -⟩ := own_isv hXr.rows.views
      obtain ⟨B4, j4, e4, -, -, -⟩ := own_isv hXr.rows.sets
      subst e1 e2 e3 e4
      clear hrun hMr hx4 h4 hM4 hk4 hXo
      replace hXr := hide hXr
      replace hPr := hide hPr
      replace hkr := hide hkr
      go_upto_region 19 with fail
      clear k17
      apply wp_region_lit
      iterate 4 (refine wpList_plain rfl fun K hK => ?_; go_simp; refine hK _ _ ?_; clear hK K)
      refine wpList_load_mid rfl 34 (.tmp 95) rfl x 0 rfl _ _ (plA_range hXr.out.blk) Tryz.underlying34 rfl (by kernel_rfl) ?_
      simp only [Array.toArray_toList]
      iterate 2 (refine wpList_plain rfl fun K hK => ?_; go_simp; refine hK _ _ ?_; clear hK K)
      refine wpl_st rfl 34 (.tmp 98) (.tmp 96) rfl p 0 rfl (cfC X1.c (.slice B1 X1.c.nodes.length j1) (.slice B2 X1.c.vips.length j2) (.slice B3 X1.c.views.length j3)) rfl hPr.out.blk (by show 0 + 11 ≤ 18; decide) (by kernel_rfl) (cf_one _ _ _ rfl rfl rfl _ _ _ _ _ _ _ _) fun w6 hg6 g6 => ?_
      rw [putA_plA] at hg6
      refine wpList_nil ?_
      go_simp
      have hk6 : KeptS wr.heap.size (fun k => k = p) wr w6 := ⟨g6.os, g6.tape, g6.output, g6.size, fun k hk hne => g6.block k hk (fun e => hne (Option.some.inj e))⟩
      have hx6 := hXr.out.keptX hPr.out.blk hk6 (Ne.symm hpx)
      obtain ⟨w7, hw7⟩ : ∃ w7, w6.setCell ⟨p, 11, none⟩ (.bool X1.has) = w7 := ⟨_, rfl⟩
      obtain ⟨hg7, hk7⟩ := keptS_cell hg6 hw7
      have hx7 := hx6.keptX hg6 hk7 (Ne.symm hpx)
      obtain ⟨w8, hw8⟩ : ∃ w8, w7.setCell ⟨p, 13, none⟩ (.slice B4 X1.sets.length j4) = w8 := ⟨_, rfl⟩
      obtain ⟨hg8, hk8⟩ := keptS_cell hg7 hw8
      have hx8 := hx7.keptX hg7 hk8 (Ne.symm hpx)
      have x11 := (show w6.cell? ⟨x, 11, none⟩ = some (.bool X1.has) from blk_cell hx6.blk 11)
      have c11 := (show w6.cell? ⟨p, 11, none⟩ = some (.bool P.has) from blk_cell hg6 11)
      have f11 := blk_free hg6 11
      have x13 := (show w7.cell? ⟨x, 13, none⟩ = some (.slice B4 X1.sets.length j4) from blk_cell hx7.blk 13)
      have c13 := (show w7.cell? ⟨p, 13, none⟩ = some (.slice A4 P.sets.length c4) from blk_cell hg7 13)
      have f13 := blk_free hg7 13
      have y17 := (show w8.cell? ⟨p, 17, none⟩ = some (.slice A P.wait.length cap) from blk_cell hg8 17)
      rw [hL] at y17
      have y12 := (show w8.cell? ⟨p, 12, none⟩ = some (.int .i64 (P.gen : Int)) from blk_cell hg8 12)
      have f12 := blk_free hg8 12
      have z6 := hk6.size
      have z7 := hk7.size
      have hwait8 : w8.ownsRow base 40 4 (.slice A P.wait.length cap) P.wait.length (P.wait.map woC).flatten := by
        have r6 := row_keptP hPr.out.rows.wait hk6 (fun k e => by subst e; exact row_ty hPr.out.rows.wait hPr.out.blk (by decide))
        have r7 := row_keptP r6 hk7 (fun k e => by subst e; exact row_ty r6 hg6 (by decide))
        exact row_keptP r7 hk8 (fun k e => by subst e; exact row_ty r7 hg7 (by decide))
      have hkk8 : KeptS w.heap.size (fun k => k = p) w w8 := keptS_trans _ _ _ _ _ (keptS_trans _ _ _ _ _ (keptS_trans _ _ _ _ _ hkr.out (keptS_less hk6 hzr (fun k _ e => e))) (keptS_less hk7 (by omega) (fun k _ e => e))) (keptS_less hk8 (by omega) (fun k _ e => e))
      have h8 : PlC w8 base p (.slice B1 X1.c.nodes.length j1) (.slice B2 X1.c.vips.length j2) (.slice B3 X1.c.views.length j3) (.slice B4 X1.sets.length j4) (.slice A P.wait.length cap) { P with op := false, c := X1.c, has := X1.has, sets := X1.sets } :=
        ⟨hg8, ⟨hx8.rows.nodes, hx8.rows.vips, hx8.rows.views, hx8.rows.sets, hwait8⟩, hPr.out.hb⟩
      clear hXr hPr hkr hk6 hx6 hg6 g6 hk7 hx7 hg7 hk8 hx8 hg8 hwait8
      replace h8 := hide h8
      replace hkk8 := hide hkk8
      by_cases h0 : i = 0
      · subst h0
        have hw0 : P.wait = [] := List.length_eq_zero_iff.1 hL
        go_wp2_with fail
        go_ret
        have h9 := h8.out
        rw [hw0, hg] at h9
        simp only [List.length_nil] at h9
        exact ⟨rfl, _, _, _, _, h9, hkk8.out⟩
      · have h1 : 0 < (i : Int) := by omega
        have hw0 : P.wait ≠ [] := by intro e; rw [e] at hL; simp at hL; omega
        obtain ⟨w9, hw9⟩ : ∃ w9, w8.setCell ⟨p, 12, none⟩ (.int .i64 ((P.gen : Int) + 1)) = w9 := ⟨_, rfl⟩
        obtain ⟨hg9, hk9⟩ := keptS_cell h8.out.blk hw9
        have hr9 := h8.out.own hk9
        have h9 : PlC w9 base p (.slice B1 X1.c.nodes.length j1) (.slice B2 X1.c.vips.length j2) (.slice B3 X1.c.views.length j3) (.slice B4 X1.sets.length j4) (.slice A P.wait.length cap) { P with op := false, c := X1.c, has := X1.has, sets := X1.sets, gen := P.gen + 1 } :=
          ⟨hg9, ⟨hr9.nodes, hr9.vips, hr9.views, hr9.sets, hr9.wait⟩, h8.out.hb⟩
        have hkk9 : KeptS w.heap.size (fun k => k = p) w w9 := keptS_trans _ _ _ _ _ hkk8.out (keptS_less hk9 hkk8.out.size (fun k _ e => e))
        have wg : IntKind.i64.wrap ((P.gen : Int) + 1) = (P.gen : Int) + 1 := wraps62 _ (by omega) (by unfold big at hgen; omega)
        clear hg9 hk9 hr9 h8 hkk8
        rw [hL, hg] at h9
        replace h9 := hide h9
        replace hkk9 := hide hkk9
        go_wp2_with fail
        go_ret
        exact ⟨rfl, _, _, _, _, h9.out, hkk9.out⟩
end Store20
end Go.Proofs.YtcpokkkdmenmgaaGreatDoor
/- The walk of StoreNobody. No condition. -/
namespace Go.Proofs.YtcpokkkdmenmgaaGreatDoor
open Go.RowKit Go.ChangeShapes Go.WideShapes Go.ChangeAt Go.Deep
namespace Store20
open Conf18 (Nd Vp Vw Cfg zA MapI lt_of_blk confF)
open Addr05 (Adr MaxAt)
open Val19
theorem load_nil (t : ByteArray) (w : World) : Calls Tryz.prog 14 #[.pointer none, .string t] w fun e w' => e = .returned (.tuple #[.int .i64 0, .int .i64 9]) ∧ w' = w := by
  have q := none_nil w
  replace q := hide q
  go_enter Tryz.func14, Tryz.ntmps14
  go_wp2_with fail
  refine (q.out).mono ?_
  rintro e w ⟨rfl, rfl⟩
  clear q
  go_wp2_with fail
  go_ret2
  exact ⟨rfl, rfl⟩
theorem gen_nil (w : World) : Calls Tryz.prog 8 #[.pointer none] w fun e w' => e = .returned (.int .i64 0) ∧ w' = w := by
  have q := none_nil w
  replace q := hide q
  go_enter Tryz.func8, Tryz.ntmps8
  go_wp2_with fail
  refine (q.out).mono ?_
  rintro e w ⟨rfl, rfl⟩
  clear q
  go_wp2_with fail
  go_ret
  exact ⟨rfl, rfl⟩
theorem now_nil (w : World) : Calls Tryz.prog 7 #[.pointer none] w fun e w' => e = .returned (.pointer none) ∧ w' = w := by
  have q := none_nil w
  replace q := hide q
  go_enter Tryz.func7, Tryz.ntmps7
  go_wp2_with fail
  refine (q.out).mono ?_
  rintro e w ⟨rfl, rfl⟩
  clear q
  go_wp2_with fail
  go_ret
  exact ⟨rfl, rfl⟩
theorem begin_nil (w : World) : Calls Tryz.prog 5 #[.pointer none] w fun e w' => e = .returned (.pointer none) ∧ w' = w := by
  have q := none_nil w
  replace q := hide q
  go_enter Tryz.func5, Tryz.ntmps5
  go_wp2_with fail
  refine (q.out).mono ?_
  rintro e w ⟨rfl, rfl⟩
  clear q
  go_wp2_with fail
  go_ret
  exact ⟨rfl, rfl⟩
theorem begin_none (s : Nat) (c0 c1 c2 : Value) (w : World) (h : w.heap[s]? = some (.cells #[c0, c1, c2, .bool false] 56 (0, 0))) : Calls Tryz.prog 5 #[.pointer (some ⟨s, 0, none⟩)] w fun e w' => e = .returned (.pointer none) ∧ w' = w := by
  have q := none_is s c0 c1 c2 false w h
  clear h
  replace q := hide q
  go_enter Tryz.func5, Tryz.ntmps5
  go_wp2_with fail
  refine (q.out).mono ?_
  rintro e w ⟨rfl, rfl⟩
  clear q
  go_wp2_with fail
  go_ret
  exact ⟨rfl, rfl⟩
theorem weight_none (s : Nat) (c0 c1 c2 : Value) (y : ByteArray) (x : Int) (w : World) (h : w.heap[s]? = some (.cells #[c0, c1, c2, .bool false] 56 (0, 0))) : Calls Tryz.prog 16 #[.pointer (some ⟨s, 0, none⟩), .string y, .int .i64 x] w fun e w' => e = .returned (.int .i64 9) ∧ w' = w := by
  have q := none_is s c0 c1 c2 false w h
  clear h
  replace q := hide q
  go_enter Tryz.func16, Tryz.ntmps16
  go_wp2_with fail
  refine (q.out).mono ?_
  rintro e w ⟨rfl, rfl⟩
  clear q
  go_wp2_with fail
  go_ret
  exact ⟨rfl, rfl⟩
theorem commit_nil (w : World) : Calls Tryz.prog 21 #[.pointer none] w fun e w' => e = .returned (.int .i64 9) ∧ w' = w := by
  go_enter Tryz.func21, Tryz.ntmps21
  go_wp2_with fail
  go_ret
  exact ⟨rfl, rfl⟩
theorem addT_more (T : Tx) (c : Ch) (i : Nat) (ho : T.over = false) (hl : T.list.length = min i 64) : ∃ T', addT T c = (T', if i < 64 then 0 else 6) ∧ T'.over = false ∧ T'.list.length = min (i + 1) 64 := by
  unfold addT
  rw [if_neg (by rw [ho]; decide)]
  by_cases h : i < 64
  · rw [if_neg (by omega), if_pos h]
    exact ⟨_, rfl, ho, by simp only [List.length_append, List.length_singleton]; omega⟩
  · rw [if_pos (by omega), if_neg h]
    exact ⟨_, rfl, ho, by omega⟩
end Store20
end Go.Proofs.YtcpokkkdmenmgaaGreatDoor
/- store, the law: both stores in memory, side by side; what a change of one leaves of the others. No condition. -/
namespace Go.Proofs.YtcpokkkdmenmgaaGreatDoor
open Go.RowKit Go.ChangeShapes Go.WideShapes Go.ChangeAt Go.Deep
namespace Store20
open Conf18 (Nd Vp Vw Cfg zA MapI lt_of_blk row_not_map)
open Addr05 (Adr MaxAt)
open Val19
/-- A block of a type; a map's block. -/
def Ty (w : World) (k : Nat) (T : TypeId) : Prop := ∃ cs, w.heap[k]? = some (.cells cs T (0, 0))
def Mp (w : World) (k : Nat) : Prop := ∃ es c, w.heap[k]? = some (.map es c)
theorem Ty.ne {w : World} {k j : Nat} {T U : TypeId} (h : Ty w k T) (h' : Ty w j U) (hne : T ≠ U) : k ≠ j := by
  rintro rfl
  obtain ⟨cs, h1⟩ := h
  obtain ⟨cs', h2⟩ := h'
  rw [h1] at h2
  simp at h2
  exact hne h2.2
theorem Ty.nm {w : World} {k j : Nat} {T : TypeId} (h : Ty w k T) (h' : Mp w j) : k ≠ j := by
  rintro rfl
  obtain ⟨cs, h1⟩ := h
  obtain ⟨es, c, h2⟩ := h'
  rw [h1] at h2
  cases h2
theorem rowTy {w : World} {base size n k : Nat} {e : TypeId} {v : Value} {xs : List Value} (h : w.ownsRow base e size v n xs) (hk : v.ownBlock = some k) : Ty w k e := by
  rcases h.2 with ⟨rfl, _⟩ | ⟨g, cap, cur, rfl, _, hh, _⟩
  · cases hk
  · cases hk
    exact ⟨cur, hh⟩
theorem rowNo {w : World} {base size n k : Nat} {e T : TypeId} {v : Value} {xs : List Value} (h : w.ownsRow base e size v n xs) (hk : Ty w k T) (hne : T ≠ e) : v.ownBlock ≠ some k := fun e2 => (hk.ne (rowTy h e2) hne) rfl
theorem rowNm {w : World} {base size n k : Nat} {e : TypeId} {v : Value} {xs : List Value} (h : w.ownsRow base e size v n xs) (hk : Mp w k) : v.ownBlock ≠ some k := fun e2 => ((rowTy h e2).nm hk) rfl
section
variable {w w' : World} {B s mp lo hi n t p : Nat} {nv lv a1 a2 a3 sv wv : Value} {S : St} {T : Tx} {P : Pl} {Q : Nat → Prop}
theorem StC.ty (h : StC w s mp lo hi n nv S) : Ty w s 56 ∧ Mp w mp := ⟨⟨_, h.blk⟩, h.map.blk⟩
theorem TxC.ty (h : TxC w B t s lv T) : Ty w t 59 ∧ ∀ k, lv.ownBlock = some k → Ty w k 85 := ⟨⟨_, h.blk⟩, fun k hk => rowTy h.row hk⟩
theorem PlC.ty (h : PlC w B p a1 a2 a3 sv wv P) : Ty w p 37 ∧ ∀ k, wv.ownBlock = some k → Ty w k 40 := ⟨⟨_, h.blk⟩, fun k hk => rowTy h.rows.wait hk⟩
theorem StC.keptG (h : StC w s mp lo hi n nv S) (hb : KeptS w.heap.size Q w w') (hQ : ∀ k, Q k → (∃ T, Ty w k T ∧ T ≠ 56) ∧ (k < lo ∨ hi ≤ k)) : StC w' s mp lo hi n nv S :=
  h.keptS hb (fun hq => by obtain ⟨⟨T, h1, h2⟩, -⟩ := hQ s hq; exact h1.ne h.ty.1 h2 rfl) (fun hq => by obtain ⟨⟨T, h1, -⟩, -⟩ := hQ mp hq; exact h1.nm h.ty.2 rfl) (fun k h1 h2 hq => by have := (hQ k hq).2; omega)
theorem TxC.keptG (h : TxC w B t s lv T) (hb : KeptS w.heap.size Q w w') (hQ : ∀ k, Q k → Mp w k ∨ ∃ U, Ty w k U ∧ U ≠ 59 ∧ U ≠ 85) : TxC w' B t s lv T :=
  h.keptS hb (fun hq => by rcases hQ t hq with h1 | ⟨U, h1, h2, -⟩; exact h.ty.1.nm h1 rfl; exact h1.ne h.ty.1 h2 rfl) (fun k hk hq => by rcases hQ k hq with h1 | ⟨U, h1, -, h2⟩; exact (h.ty.2 k hk).nm h1 rfl; exact h1.ne (h.ty.2 k hk) h2 rfl)
theorem PlC.keptG (h : PlC w B p a1 a2 a3 sv wv P) (hb : KeptS w.heap.size Q w w') (hQ : ∀ k, Q k → Mp w k ∨ Ty w k 56 ∨ Ty w k 59 ∨ Ty w k 85) : PlC w' B p a1 a2 a3 sv wv P := by
  have key : ∀ k, Q k → ∀ {e : TypeId} {size n : Nat} {v : Value} {xs : List Value}, w.ownsRow B e size v n xs → 56 ≠ e → 59 ≠ e → 85 ≠ e → v.ownBlock ≠ some k := by
    intro k hq e size n v xs hr h1 h2 h3
    rcases hQ k hq with h4 | h4 | h4 | h4
    · exact rowNm hr h4
    · exact rowNo hr h4 h1
    · exact rowNo hr h4 h2
    · exact rowNo hr h4 h3
  refine ⟨(hb.block p h.lt (fun hq => ?_)).trans h.blk, h.rows.keptP hb (fun k hq => ⟨key k hq h.rows.nodes (by decide) (by decide) (by decide), key k hq h.rows.vips (by decide) (by decide) (by decide), key k hq h.rows.views (by decide) (by decide) (by decide), key k hq h.rows.sets (by decide) (by decide) (by decide), key k hq h.rows.wait (by decide) (by decide) (by decide)⟩), h.hb⟩
  rcases hQ p hq with h4 | h4 | h4 | h4
  · exact h.ty.1.nm h4 rfl
  · exact h4.ne h.ty.1 (by decide) rfl
  · exact h4.ne h.ty.1 (by decide) rfl
  · exact h4.ne h.ty.1 (by decide) rfl
end
/-- The changes that wait, of both. -/
def TxRel (P : Pl) : Option Tx → Prop
  | none => P.made = false ∧ P.wait = []
  | some T => P.made = true ∧ T.over = !P.op ∧ T.gen = P.fr ∧ TellsL T.list P.wait ∧ P.wait.length ≤ 64 ∧ ∀ o ∈ P.wait, o.text.length ≤ 65536 ∧ o.name.length ≤ maxLen
structure Rel (m : Nat) (S : St) (P : Pl) (TO : Option Tx) : Prop where
  al : Alike S P
  ok : P.ok
  gen : S.gen ≤ m
  sets : P.sets.length ≤ m
  tx : TxRel P TO
def TxIn (w : World) (Z : Nat → Prop) (B s lo hi : Nat) (tv : Value) : Option Tx → Prop
  | none => tv = .pointer none
  | some T => ∃ t lv, tv = .pointer (some ⟨t, 0, none⟩) ∧ TxC w B t s lv T ∧ (t < lo ∨ hi ≤ t) ∧ (∀ k, lv.ownBlock = some k → k < lo ∨ hi ≤ k) ∧ ∀ k, Z k → k ≠ t ∧ lv.ownBlock ≠ some k
structure Scene (w : World) (Z : Nat → Prop) (B s p m : Nat) (tv : Value) (S : St) (P : Pl) (TO : Option Tx) (mp lo hi n : Nat) (nv a1 a2 a3 sv wv : Value) : Prop where
  st : StC w s mp lo hi n nv S
  pl : PlC w B p a1 a2 a3 sv wv P
  tx : TxIn w Z B s lo hi tv TO
  bs : B ≤ s ∧ B ≤ mp
  n : n ≤ m
  ap : p < lo ∨ hi ≤ p
  aw : ∀ k, wv.ownBlock = some k → k < lo ∨ hi ≤ k
  max : MaxAt w
  mb : 0 < B
  fz : ∀ k, Z k → k < w.heap.size ∧ k ≠ s ∧ k ≠ mp ∧ k ≠ p ∧ wv.ownBlock ≠ some k
def ScE (w : World) (Z : Nat → Prop) (B s p m : Nat) (tv : Value) (S : St) (P : Pl) (TO : Option Tx) : Prop := ∃ mp lo hi n nv a1 a2 a3 sv wv, Scene w Z B s p m tv S P TO mp lo hi n nv a1 a2 a3 sv wv
section
variable {w w' : World} {Z : Nat → Prop} {B s p m mp lo hi n : Nat} {tv nv a1 a2 a3 sv wv : Value} {S S' : St} {P P' : Pl} {TO : Option Tx}
theorem TxIn.kept {lo' hi' : Nat} {Q : Nat → Prop} (h : TxIn w Z B s lo hi tv TO) (hb : KeptS w.heap.size Q w w') (hQ : ∀ k, Q k → Mp w k ∨ ∃ U, Ty w k U ∧ U ≠ 59 ∧ U ≠ 85) (hlo : (lo' = lo ∧ hi' = hi) ∨ w.heap.size ≤ lo') : TxIn w' Z B s lo' hi' tv TO := by
  rcases TO with _ | T
  · exact h
  · obtain ⟨t, lv, h1, h2, h3, h4, h5⟩ := h
    refine ⟨t, lv, h1, h2.keptG hb hQ, ?_, fun k hk => ?_, h5⟩
    · have := h2.lt; omega
    · have := (World.ownsRow.lt h2.row k hk).2
      have := h4 k hk
      omega
/-- The store has changed. -/
theorem Scene.store (h : Scene w Z B s p m tv S P TO mp lo hi n nv a1 a2 a3 sv wv) (ht : StTo w w' s mp lo hi n S') : ∃ lo' hi' n' nv', Scene w' Z B s p (m + 1) tv S' P TO mp lo' hi' n' nv' a1 a2 a3 sv wv ∧ KeptS w.heap.size (fun k => k = s ∨ k = mp) w w' := by
  obtain ⟨lo', hi', n', nv', h1, h2, h3, h4⟩ := ht
  have hty := h.st.ty
  have hp := h.pl.lt
  refine ⟨lo', hi', n', nv', ⟨h1, h.pl.keptG h4 (fun k hk => ?_), h.tx.kept h4 (fun k hk => ?_) h3, h.bs, by have := h.n; omega, ?_, fun k hk => ?_, StC.maxAt h.max h4 (fun e => by have := h.mb; have := h.bs; omega), h.mb, fun k hk => by have := h.fz k hk; exact ⟨Nat.lt_of_lt_of_le this.1 h4.size, this.2⟩⟩, h4⟩
  · rcases hk with rfl | rfl
    · exact .inr (.inl hty.1)
    · exact .inl hty.2
  · rcases hk with rfl | rfl
    · exact .inr ⟨_, hty.1, by decide, by decide⟩
    · exact .inl hty.2
  · have := h.ap; omega
  · have := h.aw k hk
    have := (World.ownsRow.lt h.pl.rows.wait k hk).2
    omega
/-- The document's store has changed, but not what waits. -/
theorem Scene.plain (h : Scene w Z B s p m tv S P TO mp lo hi n nv a1 a2 a3 sv wv) (ht : PlTo w w' B p wv P') : ∃ a1' a2' a3' sv', Scene w' Z B s p m tv S P' TO mp lo hi n nv a1' a2' a3' sv' wv ∧ KeptS w.heap.size (fun k => k = p) w w' := by
  obtain ⟨a1', a2', a3', sv', h1, h2⟩ := ht
  have hty := h.pl.ty.1
  refine ⟨a1', a2', a3', sv', ⟨h.st.keptG h2 (fun k hk => ?_), h1, h.tx.kept h2 (fun k hk => ?_) (.inl ⟨rfl, rfl⟩), h.bs, h.n, h.ap, h.aw, StC.maxAt h.max h2 (fun e => h.pl.max h.max e.symm), h.mb, fun k hk => by have := h.fz k hk; exact ⟨Nat.lt_of_lt_of_le this.1 h2.size, this.2⟩⟩, h2⟩
  · subst hk; exact ⟨⟨_, hty, by decide⟩, h.ap⟩
  · subst hk; exact .inr ⟨_, hty, by decide, by decide⟩
theorem Scene.below (h : Scene w Z B s p m tv S P TO mp lo hi n nv a1 a2 a3 sv wv) (hb : Below w.heap.size w w') : Scene w' Z B s p m tv S P TO mp lo hi n nv a1 a2 a3 sv wv :=
  ⟨h.st.below hb, h.pl.below hb, h.tx.kept (Q := fun _ => False) (keptS_of_below hb (Nat.le_refl _)) (fun k hk => hk.elim) (.inl ⟨rfl, rfl⟩), h.bs, h.n, h.ap, h.aw, h.max.below hb, h.mb, fun k hk => by have := h.fz k hk; exact ⟨Nat.lt_of_lt_of_le this.1 hb.size, this.2⟩⟩
/-- A change waits with the document's store. -/
theorem Scene.padd (h : Scene w Z B s p m tv S P TO mp lo hi n nv a1 a2 a3 sv wv) (ht : PaTo w w' B p wv P') : ∃ a1' a2' a3' sv' wv', Scene w' Z B s p m tv S P' TO mp lo hi n nv a1' a2' a3' sv' wv' ∧ KeptS w.heap.size (fun k => k = p ∨ wv.ownBlock = some k) w w' := by
  obtain ⟨a1', a2', a3', sv', wv', h1, h0, h2⟩ := ht
  have hty := h.pl.ty
  refine ⟨a1', a2', a3', sv', wv', ⟨h.st.keptG h2 (fun k hk => ?_), h1, h.tx.kept h2 (fun k hk => ?_) (.inl ⟨rfl, rfl⟩), h.bs, h.n, h.ap, fun k hk => ?_, StC.maxAt h.max h2 (fun e => by have := h.mb; have := h.pl.hb; rcases e with e | e; omega; have := (World.ownsRow.lt h.pl.rows.wait _ e).1; omega), h.mb, fun k hk => ?_⟩, h2⟩
  · rcases hk with rfl | hk
    · exact ⟨⟨_, hty.1, by decide⟩, h.ap⟩
    · exact ⟨⟨_, hty.2 k hk, by decide⟩, h.aw k hk⟩
  · rcases hk with rfl | hk
    · exact .inr ⟨_, hty.1, by decide, by decide⟩
    · exact .inr ⟨_, hty.2 k hk, by decide, by decide⟩
  · rcases h0 with e | ⟨j, e, hj⟩
    · rw [e] at hk; exact h.aw k hk
    · rw [e] at hk
      cases hk
      have := h.st.hh
      omega
  · have h5 := h.fz k hk
    refine ⟨Nat.lt_of_lt_of_le h5.1 h2.size, h5.2.1, h5.2.2.1, h5.2.2.2.1, fun e => ?_⟩
    rcases h0 with e2 | ⟨j, e2, hj⟩
    · rw [e2] at e; exact h5.2.2.2.2 e
    · rw [e2] at e
      cases e
      omega
/-- A change waits with the store. -/
theorem Scene.tadd {t : Nat} {lv : Value} {T T' : Tx} (h : Scene w Z B s p m (.pointer (some ⟨t, 0, none⟩)) S P (some T) mp lo hi n nv a1 a2 a3 sv wv) (hT : TxC w B t s lv T) (hap : (t < lo ∨ hi ≤ t) ∧ (∀ k, lv.ownBlock = some k → k < lo ∨ hi ≤ k) ∧ ∀ k, Z k → k ≠ t ∧ lv.ownBlock ≠ some k) (ht : TxTo w w' B t s lv T') :
    Scene w' Z B s p m (.pointer (some ⟨t, 0, none⟩)) S P (some T') mp lo hi n nv a1 a2 a3 sv wv ∧ KeptS w.heap.size (fun k => k = t ∨ lv.ownBlock = some k) w w' := by
  obtain ⟨lv', h1, h0, h2⟩ := ht
  have hty := hT.ty
  refine ⟨⟨h.st.keptG h2 (fun k hk => ?_), h.pl.keptG h2 (fun k hk => ?_), ⟨t, lv', rfl, h1, hap.1, fun k hk => ?_, fun k hk => ?_⟩, h.bs, h.n, h.ap, h.aw, StC.maxAt h.max h2 (fun e => by have := h.mb; have := hT.hb; rcases e with e | e; omega; have := (World.ownsRow.lt hT.row _ e).1; omega), h.mb, fun k hk => by have := h.fz k hk; exact ⟨Nat.lt_of_lt_of_le this.1 h2.size, this.2⟩⟩, h2⟩
  · rcases hk with rfl | hk
    · exact ⟨⟨_, hty.1, by decide⟩, hap.1⟩
    · exact ⟨⟨_, hty.2 k hk, by decide⟩, hap.2.1 k hk⟩
  · rcases hk with rfl | hk
    · exact .inr (.inr (.inl hty.1))
    · exact .inr (.inr (.inr (hty.2 k hk)))
  · rcases h0 with e | ⟨j, e, hj⟩
    · rw [e] at hk; exact hap.2.1 k hk
    · rw [e] at hk
      cases hk
      have := h.st.hh
      omega
  · have h5 := hap.2.2 k hk
    have h6 := (h.fz k hk).1
    refine ⟨h5.1, fun e => ?_⟩
    rcases h0 with e2 | ⟨j, e2, hj⟩
    · rw [e2] at e; exact h5.2 e
    · rw [e2] at e
      cases e
      omega
/-- No more changes wait with the store. -/
theorem Scene.tover {t : Nat} {lv : Value} {T T' : Tx} (h : Scene w Z B s p m (.pointer (some ⟨t, 0, none⟩)) S P (some T) mp lo hi n nv a1 a2 a3 sv wv) (hT : TxC w B t s lv T) (hap : (t < lo ∨ hi ≤ t) ∧ (∀ k, lv.ownBlock = some k → k < lo ∨ hi ≤ k) ∧ ∀ k, Z k → k ≠ t ∧ lv.ownBlock ≠ some k) (h1 : TxC w' B t s lv T') (h2 : KeptS w.heap.size (fun k => k = t) w w') :
    Scene w' Z B s p m (.pointer (some ⟨t, 0, none⟩)) S P (some T') mp lo hi n nv a1 a2 a3 sv wv :=
  (h.tadd hT hap ⟨lv, h1, .inl rfl, keptS_mono2 h2 (fun k e => .inl e)⟩).1
/-- Changes have taken hold. -/
theorem Scene.commit {t : Nat} {lv : Value} {T : Tx} (h : Scene w Z B s p m (.pointer (some ⟨t, 0, none⟩)) S P (some T) mp lo hi n nv a1 a2 a3 sv wv) (hT : TxC w B t s lv T) (hap : (t < lo ∨ hi ≤ t) ∧ (∀ k, lv.ownBlock = some k → k < lo ∨ hi ≤ k) ∧ ∀ k, Z k → k ≠ t ∧ lv.ownBlock ≠ some k) (hl : T.list.length ≤ 64) (ht : ComTo w w' B t s mp lo hi n lv T S') :
    ∃ mp' lo' hi' n' nv', Scene w' Z B s p (m + 64) (.pointer (some ⟨t, 0, none⟩)) S' P (some { T with over := true }) mp' lo' hi' n' nv' a1 a2 a3 sv wv ∧ KeptS w.heap.size (fun k => k = t ∨ k = s) w w' := by
  obtain ⟨h1, h2, mp', lo', hi', n', nv', h3, h4, h5, h6⟩ := ht
  have hty := hT.ty
  have hst := h.st.ty
  have hz := h2.size
  have hpl := h.pl.lt
  have htl := hT.lt
  refine ⟨mp', lo', hi', n', nv', ⟨h3, h.pl.keptG h2 (fun k hk => ?_), ⟨t, lv, rfl, h1, ?_, fun k hk => ?_, hap.2.2⟩, ⟨h.bs.1, ?_⟩, by have := h.n; omega, ?_, fun k hk => ?_, StC.maxAt h.max h2 (fun e => by have := h.mb; have := hT.hb; have := h.bs; omega), h.mb, fun k hk => by have := h.fz k hk; exact ⟨by omega, this.2.1, by omega, this.2.2.2⟩⟩, h2⟩
  · rcases hk with rfl | rfl
    · exact .inr (.inr (.inl hty.1))
    · exact .inr (.inl hst.1)
  · have := hap.1; omega
  · have := hap.2.1 k hk
    have := (World.ownsRow.lt hT.row k hk).2
    omega
  · have := h.bs; have := h.pl.hb; omega
  · have := h.ap; omega
  · have := h.aw k hk
    have := (World.ownsRow.lt h.pl.rows.wait k hk).2
    omega
end
end Store20
end Go.Proofs.YtcpokkkdmenmgaaGreatDoor
/- store, the law: the calls of both stores, in a scene; and what each makes of what both have. Conditions: texts of at most 65536 bytes, fewer than 2^39 changes. -/
namespace Go.Proofs.YtcpokkkdmenmgaaGreatDoor
open Go.RowKit Go.ChangeShapes Go.WideShapes Go.ChangeAt Go.Deep
namespace Store20
open Conf18 (Nd Vp Vw Cfg zA MapI lt_of_blk confF)
open Addr05 (Adr MaxAt)
open Val19
theorem Scene.more {w : World} {Z : Nat → Prop} {B s p m m' mp lo hi n : Nat} {tv nv a1 a2 a3 sv wv : Value} {S : St} {P : Pl} {TO : Option Tx} (h : Scene w Z B s p m tv S P TO mp lo hi n nv a1 a2 a3 sv wv) (hm : m ≤ m') : Scene w Z B s p m' tv S P TO mp lo hi n nv a1 a2 a3 sv wv := ⟨h.st, h.pl, h.tx, h.bs, Nat.le_trans h.n hm, h.ap, h.aw, h.max, h.mb, h.fz⟩
theorem ScE.more {w : World} {Z : Nat → Prop} {B s p m m' : Nat} {tv : Value} {S : St} {P : Pl} {TO : Option Tx} (h : ScE w Z B s p m tv S P TO) (hm : m ≤ m') : ScE w Z B s p m' tv S P TO := by
  obtain ⟨mp, lo, hi, n, nv, a1, a2, a3, sv, wv, h⟩ := h
  exact ⟨mp, lo, hi, n, nv, a1, a2, a3, sv, wv, h.more hm⟩
theorem ScE.below {w w' : World} {Z : Nat → Prop} {B s p m : Nat} {tv : Value} {S : St} {P : Pl} {TO : Option Tx} (h : ScE w Z B s p m tv S P TO) (hb : Below w.heap.size w w') : ScE w' Z B s p m tv S P TO := by
  obtain ⟨mp, lo, hi, n, nv, a1, a2, a3, sv, wv, h⟩ := h
  exact ⟨mp, lo, hi, n, nv, a1, a2, a3, sv, wv, h.below hb⟩
theorem ScE.size {w : World} {Z : Nat → Prop} {B s p m : Nat} {tv : Value} {S : St} {P : Pl} {TO : Option Tx} (h : ScE w Z B s p m tv S P TO) : B ≤ w.heap.size := by
  obtain ⟨mp, lo, hi, n, nv, a1, a2, a3, sv, wv, h⟩ := h
  have := h.pl.hb
  have := h.pl.lt
  omega
theorem ScE.less {w : World} {Z Z' : Nat → Prop} {B s p m : Nat} {tv : Value} {S : St} {P : Pl} {TO : Option Tx} (h : ScE w Z B s p m tv S P TO) (hZ : ∀ k, Z' k → Z k) : ScE w Z' B s p m tv S P TO := by
  obtain ⟨mp, lo, hi, n, nv, a1, a2, a3, sv, wv, h⟩ := h
  refine ⟨mp, lo, hi, n, nv, a1, a2, a3, sv, wv, h.st, h.pl, ?_, h.bs, h.n, h.ap, h.aw, h.max, h.mb, fun k hk => h.fz k (hZ k hk)⟩
  rcases TO with _ | T
  · exact h.tx
  · obtain ⟨t, lv, h1, h2, h3, h4, h5⟩ := h.tx
    exact ⟨t, lv, h1, h2, h3, h4, fun k hk => h5 k (hZ k hk)⟩
/-- A new block stays, too. -/
theorem ScE.fresh {w w' : World} {Z : Nat → Prop} {B s p m z : Nat} {tv : Value} {S : St} {P : Pl} {TO : Option Tx} (h : ScE w Z B s p m tv S P TO) (hb : Below w.heap.size w w') (hz : w.heap.size ≤ z ∧ z < w'.heap.size) : ScE w' (fun k => Z k ∨ k = z) B s p m tv S P TO := by
  obtain ⟨mp, lo, hi, n, nv, a1, a2, a3, sv, wv, h⟩ := h
  have h' := h.below hb
  have hl := h.st.lt
  have hp := h.pl.lt
  refine ⟨mp, lo, hi, n, nv, a1, a2, a3, sv, wv, h'.st, h'.pl, ?_, h'.bs, h'.n, h'.ap, h'.aw, h'.max, h'.mb, fun k hk => ?_⟩
  · rcases TO with _ | T
    · exact h'.tx
    · obtain ⟨t, lv, h1, h2, h3, h4, h5⟩ := h.tx
      refine ⟨t, lv, h1, h2.below hb, h3, h4, fun k hk => ?_⟩
      rcases hk with hk | rfl
      · exact h5 k hk
      · refine ⟨by have := h2.lt; omega, fun e => ?_⟩
        have := (World.ownsRow.lt h2.row _ e).2
        omega
  · rcases hk with hk | rfl
    · have := h'.fz k hk
      exact this
    · refine ⟨hz.2, by omega, by omega, by omega, fun e => ?_⟩
      have := (World.ownsRow.lt h.pl.rows.wait _ e).2
      omega
def addO (TO : Option Tx) (c : Ch) : Option Tx × Nat := match TO with
  | none => (none, 9)
  | some T => (some (addT T c).1, (addT T c).2)
def dropO (TO : Option Tx) : Option Tx := TO.map fun T => { T with over := true }
def comO (S : St) (TO : Option Tx) : St × Int := match TO with
  | none => (S, 9)
  | some T => commitS S T
section
variable {w : World} {Z : Nat → Prop} {B s p m : Nat} {tv : Value} {S : St} {P : Pl} {TO : Option Tx}
theorem sc_load (t : List UInt8) (ht : t.length ≤ 65536) (h : ScE w Z B s p m tv S P TO) (hg : S.gen < big) :
    Calls Tryz.prog 14 #[.pointer (some ⟨s, 0, none⟩), .string (str t)] w fun e w' => e = .returned (.tuple #[.int .i64 (loadS S t).2.1, .int .i64 (loadS S t).2.2]) ∧ ScE w' Z B s p (m + 1) tv (loadS S t).1 P TO ∧ Below B w w' ∧ ∀ k, Z k → w'.heap[k]? = w.heap[k]? := by
  have hz := h.size
  obtain ⟨mp, lo, hi, n, nv, a1, a2, a3, sv, wv, h⟩ := h
  refine (load_any S t ht w h.st hg h.max).mono ?_
  rintro e w' ⟨rfl, hto⟩
  obtain ⟨lo', hi', n', nv', h1, h2⟩ := h.store hto
  have := h.bs
  exact ⟨rfl, ⟨_, _, _, _, _, _, _, _, _, _, h1⟩, below_step (Below.refl B w) h2 hz (fun i hi e => by omega), fun k hk => h2.block k (h.fz k hk).1 (fun e => by have := h.fz k hk; omega)⟩
theorem sc_weight (y : List UInt8) (hy : y.length ≤ maxLen) (x : Int) (h : ScE w Z B s p m tv S P TO) (hg : S.gen < big) (hm : m < big) :
    Calls Tryz.prog 16 #[.pointer (some ⟨s, 0, none⟩), .string (str y), .int .i64 x] w fun e w' => e = .returned (.int .i64 ((weightS S y x).2 : Int)) ∧ ScE w' Z B s p (m + 1) tv (weightS S y x).1 P TO ∧ Below B w w' ∧ ∀ k, Z k → w'.heap[k]? = w.heap[k]? := by
  have hz := h.size
  obtain ⟨mp, lo, hi, n, nv, a1, a2, a3, sv, wv, h⟩ := h
  refine (weight_any S y hy x w h.st hg (Nat.lt_of_le_of_lt h.n hm)).mono ?_
  rintro e w' ⟨rfl, hto⟩
  obtain ⟨lo', hi', n', nv', h1, h2⟩ := h.store hto
  have := h.bs
  exact ⟨rfl, ⟨_, _, _, _, _, _, _, _, _, _, h1⟩, below_step (Below.refl B w) h2 hz (fun i hi e => by omega), fun k hk => h2.block k (h.fz k hk).1 (fun e => by have := h.fz k hk; omega)⟩
theorem sc_pload (t : List UInt8) (ht : t.length ≤ 65536) (h : ScE w Z B s p m tv S P TO) (hg : P.gen < big) :
    Calls Tryz.prog 15 #[.pointer (some ⟨p, 0, none⟩), .string (str t)] w fun e w' => e = .returned (.tuple #[.int .i64 (loadP P t).2.1, .int .i64 (loadP P t).2.2]) ∧ ScE w' Z B s p m tv S (loadP P t).1 TO ∧ Below B w w' ∧ ∀ k, Z k → w'.heap[k]? = w.heap[k]? := by
  have hz := h.size
  obtain ⟨mp, lo, hi, n, nv, a1, a2, a3, sv, wv, h⟩ := h
  refine (pload_any P t ht w h.pl hg h.max).mono ?_
  rintro e w' ⟨rfl, hto⟩
  obtain ⟨b1, b2, b3, b4, h1, h2⟩ := h.plain hto
  have := h.pl.hb
  exact ⟨rfl, ⟨_, _, _, _, _, _, _, _, _, _, h1⟩, below_step (Below.refl B w) h2 hz (fun i hi e => by omega), fun k hk => h2.block k (h.fz k hk).1 (fun e => by have := h.fz k hk; omega)⟩
theorem sc_pweight (y : List UInt8) (x : Int) (h : ScE w Z B s p m tv S P TO) (hg : P.gen < big) (hn : P.sets.length < big) (ho : P.ok) :
    Calls Tryz.prog 17 #[.pointer (some ⟨p, 0, none⟩), .string (str y), .int .i64 x] w fun e w' => e = .returned (.int .i64 ((weightP P y x).2 : Int)) ∧ ScE w' Z B s p m tv S (weightP P y x).1 TO ∧ Below B w w' ∧ ∀ k, Z k → w'.heap[k]? = w.heap[k]? := by
  have hz := h.size
  obtain ⟨mp, lo, hi, n, nv, a1, a2, a3, sv, wv, h⟩ := h
  refine (pweight_any P y x w h.pl hg hn ho.len (fun hh => ho.tree hh)).mono ?_
  rintro e w' ⟨rfl, hto⟩
  obtain ⟨b1, b2, b3, b4, h1, h2⟩ := h.plain hto
  have := h.pl.hb
  exact ⟨rfl, ⟨_, _, _, _, _, _, _, _, _, _, h1⟩, below_step (Below.refl B w) h2 hz (fun i hi e => by omega), fun k hk => h2.block k (h.fz k hk).1 (fun e => by have := h.fz k hk; omega)⟩
theorem sc_padd (o : Wo) (h : ScE w Z B s p m tv S P TO) :
    Calls Tryz.prog 19 #[.pointer (some ⟨p, 0, none⟩), .agg #[.int .i64 o.kind, .string (str o.text), .string (str o.name), .int .i64 o.w]] w fun e w' => e = .returned (.int .i64 ((addP P o).2 : Int)) ∧ ScE w' Z B s p m tv S (addP P o).1 TO ∧ Below B w w' ∧ ∀ k, Z k → w'.heap[k]? = w.heap[k]? := by
  have hz := h.size
  obtain ⟨mp, lo, hi, n, nv, a1, a2, a3, sv, wv, h⟩ := h
  refine (padd_any P o w h.pl).mono ?_
  rintro e w' ⟨rfl, hto⟩
  obtain ⟨b1, b2, b3, b4, b5, h1, h2⟩ := h.padd hto
  have := h.pl.hb
  exact ⟨rfl, ⟨_, _, _, _, _, _, _, _, _, _, h1⟩, below_step (Below.refl B w) h2 hz (fun i hi e => by
    rcases e with e | e
    · omega
    · have := (World.ownsRow.lt h.pl.rows.wait _ e).1; omega), fun k hk => h2.block k (h.fz k hk).1 (fun e => by
    have := h.fz k hk
    rcases e with e | e
    · omega
    · exact this.2.2.2.2 e)⟩
theorem sc_pcommit (h : ScE w Z B s p m tv S P TO) (ho : P.ok) (hg : P.gen + P.wait.length < big) (hn : P.sets.length + P.wait.length < big) (hcs : ∀ c ∈ P.wait, c.text.length ≤ 65536) :
    Calls Tryz.prog 22 #[.pointer (some ⟨p, 0, none⟩)] w fun e w' => e = .returned (.int .i64 (commitP P).2) ∧ ScE w' Z B s p m tv S (commitP P).1 TO ∧ Below B w w' ∧ ∀ k, Z k → w'.heap[k]? = w.heap[k]? := by
  have hz := h.size
  obtain ⟨mp, lo, hi, n, nv, a1, a2, a3, sv, wv, h⟩ := h
  refine (pcommit_any P w h.pl ho hg hn h.max hcs).mono ?_
  rintro e w' ⟨rfl, hto⟩
  obtain ⟨b1, b2, b3, b4, h1, h2⟩ := h.plain hto
  have := h.pl.hb
  exact ⟨rfl, ⟨_, _, _, _, _, _, _, _, _, _, h1⟩, below_step (Below.refl B w) h2 hz (fun i hi e => by omega), fun k hk => h2.block k (h.fz k hk).1 (fun e => by have := h.fz k hk; omega)⟩
theorem sc_xload (y : List UInt8) (h : ScE w Z B s p m tv S P TO) :
    Calls Tryz.prog 18 #[tv, .string (str y)] w fun e w' => e = .returned (.int .i64 ((addO TO ⟨y, [], 0⟩).2 : Int)) ∧ ScE w' Z B s p m tv S P (addO TO ⟨y, [], 0⟩).1 ∧ Below B w w' ∧ ∀ k, Z k → w'.heap[k]? = w.heap[k]? := by
  have hz := h.size
  have hsc := h
  obtain ⟨mp, lo, hi, n, nv, a1, a2, a3, sv, wv, h⟩ := h
  rcases TO with _ | T
  · obtain rfl : tv = .pointer none := h.tx
    refine (xload_nil y w).mono ?_
    rintro e w' ⟨rfl, hb⟩
    exact ⟨rfl, hsc.below hb, hb.mono hz, fun k hk => hb.block k (h.fz k hk).1⟩
  · obtain ⟨t, lv, rfl, hT, h2, h3, hz9⟩ := h.tx
    refine (xload_any T y w hT).mono ?_
    rintro e w' ⟨rfl, hto⟩
    obtain ⟨h4, h5⟩ := h.tadd hT ⟨h2, h3, hz9⟩ hto
    have := hT.hb
    exact ⟨rfl, ⟨_, _, _, _, _, _, _, _, _, _, h4⟩, below_step (Below.refl B w) h5 hz (fun i hi e => by
      rcases e with e | e
      · omega
      · have := (World.ownsRow.lt hT.row _ e).1; omega), fun k hk => h5.block k (h.fz k hk).1 (fun e => by
      have := hz9 k hk
      rcases e with e | e
      · omega
      · exact this.2 e)⟩
theorem sc_xweight (y : List UInt8) (x : Int) (h : ScE w Z B s p m tv S P TO) :
    Calls Tryz.prog 20 #[tv, .string (str y), .int .i64 x] w fun e w' => e = .returned (.int .i64 ((addO TO ⟨[], y, x⟩).2 : Int)) ∧ ScE w' Z B s p m tv S P (addO TO ⟨[], y, x⟩).1 ∧ Below B w w' ∧ ∀ k, Z k → w'.heap[k]? = w.heap[k]? := by
  have hz := h.size
  have hsc := h
  obtain ⟨mp, lo, hi, n, nv, a1, a2, a3, sv, wv, h⟩ := h
  rcases TO with _ | T
  · obtain rfl : tv = .pointer none := h.tx
    refine (xweight_nil y x w).mono ?_
    rintro e w' ⟨rfl, hb⟩
    exact ⟨rfl, hsc.below hb, hb.mono hz, fun k hk => hb.block k (h.fz k hk).1⟩
  · obtain ⟨t, lv, rfl, hT, h2, h3, hz9⟩ := h.tx
    refine (xweight_any T y x w hT).mono ?_
    rintro e w' ⟨rfl, hto⟩
    obtain ⟨h4, h5⟩ := h.tadd hT ⟨h2, h3, hz9⟩ hto
    have := hT.hb
    exact ⟨rfl, ⟨_, _, _, _, _, _, _, _, _, _, h4⟩, below_step (Below.refl B w) h5 hz (fun i hi e => by
      rcases e with e | e
      · omega
      · have := (World.ownsRow.lt hT.row _ e).1; omega), fun k hk => h5.block k (h.fz k hk).1 (fun e => by
      have := hz9 k hk
      rcases e with e | e
      · omega
      · exact this.2 e)⟩
theorem sc_drop (h : ScE w Z B s p m tv S P TO) :
    Calls Tryz.prog 23 #[tv] w fun e w' => e = .returned (.tuple #[]) ∧ ScE w' Z B s p m tv S P (dropO TO) ∧ Below B w w' ∧ ∀ k, Z k → w'.heap[k]? = w.heap[k]? := by
  have hz := h.size
  have hsc := h
  obtain ⟨mp, lo, hi, n, nv, a1, a2, a3, sv, wv, h⟩ := h
  rcases TO with _ | T
  · obtain rfl : tv = .pointer none := h.tx
    refine (drop_nil w).mono ?_
    rintro e w' ⟨rfl, rfl⟩
    exact ⟨rfl, hsc, Below.refl _ _, fun k hk => rfl⟩
  · obtain ⟨t, lv, rfl, hT, h2, h3, hz9⟩ := h.tx
    refine (drop_any hT).mono ?_
    rintro e w' ⟨rfl, h4, h5⟩
    have := hT.hb
    exact ⟨rfl, ⟨_, _, _, _, _, _, _, _, _, _, h.tover hT ⟨h2, h3, hz9⟩ h4 h5⟩, below_step (Below.refl B w) h5 hz (fun i hi e => by omega), fun k hk => h5.block k (h.fz k hk).1 (fun e => by have := hz9 k hk; have := h.fz k hk; omega)⟩
theorem sc_commit (h : ScE w Z B s p m tv S P TO) (hr : TxRel P TO) (hg : S.gen + 64 < big) (hm : m + 64 < big) :
    Calls Tryz.prog 21 #[tv] w fun e w' => e = .returned (.int .i64 (comO S TO).2) ∧ ScE w' Z B s p (m + 64) tv (comO S TO).1 P (dropO TO) ∧ Below B w w' ∧ ∀ k, Z k → w'.heap[k]? = w.heap[k]? := by
  have hz := h.size
  have hsc := h
  obtain ⟨mp, lo, hi, n, nv, a1, a2, a3, sv, wv, h⟩ := h
  rcases TO with _ | T
  · obtain rfl : tv = .pointer none := h.tx
    refine (commit_nil w).mono ?_
    rintro e w' ⟨rfl, rfl⟩
    exact ⟨rfl, hsc.more (by omega), Below.refl _ _, fun k hk => rfl⟩
  · obtain ⟨t, lv, rfl, hT, h2, h3, hz9⟩ := h.tx
    obtain ⟨-, -, -, hl, h64, htx⟩ := hr
    have hlen : T.list.length ≤ 64 := by rw [hl.1]; exact h64
    refine (commit_any S T w h.st hT h2 (by omega) (by have := h.n; omega) h.max (fun c hc => ?_)).mono ?_
    · obtain ⟨i, hi⟩ := List.mem_iff_getElem?.1 hc
      have hil := (List.getElem?_eq_some_iff.1 hi).1
      have ho := List.getElem?_eq_getElem (l := P.wait) (i := i) (by rw [← hl.1]; exact hil)
      have h5 := hl.2 i c _ hi ho
      have h6 := htx _ (List.mem_of_getElem? ho)
      unfold Tells at h5
      split at h5
      · rw [h5]; exact ⟨h6.1, by unfold maxLen; simp⟩
      · rw [h5]; exact ⟨by simp, h6.2⟩
    · rintro e w' ⟨rfl, hto⟩
      obtain ⟨mp', lo', hi', n', nv', h4, h5⟩ := h.commit hT ⟨h2, h3, hz9⟩ hlen hto
      have := hT.hb
      have := h.bs
      exact ⟨rfl, ⟨_, _, _, _, _, _, _, _, _, _, h4⟩, below_step (Below.refl B w) h5 hz (fun i hi e => by omega), fun k hk => h5.block k (h.fz k hk).1 (fun e => by have := hz9 k hk; have := h.fz k hk; omega)⟩
end
end Store20
end Go.Proofs.YtcpokkkdmenmgaaGreatDoor
