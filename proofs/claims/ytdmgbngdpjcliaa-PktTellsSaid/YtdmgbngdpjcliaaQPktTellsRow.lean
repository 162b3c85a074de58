/- The statement PktTells for every input: the walk, met in the row. No condition. -/
import Derived.Test.YtdmgbngdpjcliaaRows
import Derived.Test.YtdmgbngdpjcliaaQPktBig3
import Derived.Test.YtdmgbngdpjcliaaQPktTells2
namespace Go.Proofs.Ytdmgbngdpjcliaa
open Go.RowKit Go.ChangeShapes Go.WideShapes Go.ChangeAt Go.Deep
namespace RowPktTells
theorem list0 (l : List Value) (h : l.length = 9) : ∃ c0 c1 c2 c3 c4 c5 c6 c7 c8, l = [c0, c1, c2, c3, c4, c5, c6, c7, c8] := by
  match l, h with
  | [c0, c1, c2, c3, c4, c5, c6, c7, c8], _ => exact ⟨c0, c1, c2, c3, c4, c5, c6, c7, c8, rfl⟩
theorem leafs0 : leafsOf Try.prog 5 56 0 = some [(3, 0), (4, 1), (24, 2), (24, 3), (4, 4), (24, 5), (24, 6), (3, 7), (3, 8)] := by kernel_rfl
theorem cells0 : Try.prog.cellsOf 56 = 9 := by kernel_rfl
theorem under0 : ∃ fs, Try.prog.underlying 56 = some (.struct fs) := ⟨_, Try.underlying56⟩
theorem list1 (l : List Value) (h : l.length = 3) : ∃ c0 c1 c2, l = [c0, c1, c2] := by
  match l, h with
  | [c0, c1, c2], _ => exact ⟨c0, c1, c2, rfl⟩
theorem leafs1 : leafsOf Try.prog 5 26 0 = some [(4, 0), (24, 1), (24, 2)] := by kernel_rfl
theorem cells1 : Try.prog.cellsOf 26 = 3 := by kernel_rfl
theorem under1 : ∃ fs, Try.prog.underlying 26 = some (.struct fs) := ⟨_, Try.underlying26⟩
set_option maxRecDepth 100000 in
theorem lifted (os : Os) (started : os.Started) (H : Type) (enc : TypeId × Value → H) :
    ReturnsInHanded {} Try.checked os 10 .any (Rows.pktTellsSpec.pre6 enc Try.prog Try.f10 Rows.pktTellsRow.domain false) (Rows.pktTellsSpec.post enc Try.prog Try.f10 false true false false) := by
  refine returnsInHanded_of_change (C := Try.checked) own started (by kernel_rfl) Try.func10
    (ChangeSpec.witness6 (enc := enc) (C := Try.checked) false ⟨#[], #[.agg #[.int .i64 0, .bool false, .int .u64 0, .int .u64 0, .bool false, .int .u64 0, .int .u64 0, .int .i64 0, .int .i64 0], .agg #[.bool false, .int .u64 0, .int .u64 0], .int .i64 0, .slice none 0 0, .int .i64 0], []⟩ 8 (by kernel_rfl) (by kernel_rfl) (by kernel_rfl) (by kernel_rfl)) ?_
  intro W base args ds gs before hval0 hW hcnd _
  have hval : ∀ (j : Nat) t v, Try.f10.params[j]? = some t → args[j]? = some v → Value.okWide Try.prog W .any base t v := hval0
  have hW' := hW
  obtain ⟨p, q, hA0, hV, rfl, hfz, hnd⟩ := hW
  have hA : DataW.TrodAll enc Try.prog W 0 (fun _ => true) true Try.f10.params.toList args.toList ds p := hA0
  rw [Try.params10] at hA hval
  obtain ⟨v0, vs0, d0, ds0, p0, q0, hargs, rfl, rfl, h0, r0⟩ := trodAll_cons hA
  obtain ⟨v1, vs1, d1, ds1, p1, q1, rfl, rfl, rfl, h1, r1⟩ := trodAll_cons r0
  obtain ⟨v2, vs2, d2, ds2, p2, q2, rfl, rfl, rfl, h2, r2⟩ := trodAll_cons r1
  obtain ⟨v3, vs3, d3, ds3, p3, q3, rfl, rfl, rfl, h3, r3⟩ := trodAll_cons r2
  obtain ⟨v4, vs4, d4, ds4, p4, q4, rfl, rfl, rfl, h4, r4⟩ := trodAll_cons r3
  obtain ⟨rfl, rfl, rfl⟩ := trodAll_nil r4
  obtain rfl : args = #[v0, v1, v2, v3, v4] := by cases args; simp_all
  obtain ⟨rfl, rfl⟩ := trodVars_none hV
  have k0 := h0
  have lt0 : ∀ x ∈ p0, x.block < W.heap.size := by obtain ⟨m, hm⟩ := k0; exact DataW.trod_lt m _ _ _ hm
  have k1 := h1
  have lt1 : ∀ x ∈ p1, x.block < W.heap.size := by obtain ⟨m, hm⟩ := k1; exact DataW.trod_lt m _ _ _ hm
  have k2 := h2
  have lt2 : ∀ x ∈ p2, x.block < W.heap.size := by obtain ⟨m, hm⟩ := k2; exact DataW.trod_lt m _ _ _ hm
  have k3 := h3
  have lt3 : ∀ x ∈ p3, x.block < W.heap.size := by obtain ⟨m, hm⟩ := k3; exact DataW.trod_lt m _ _ _ hm
  have k4 := h4
  have lt4 : ∀ x ∈ p4, x.block < W.heap.size := by obtain ⟨m, hm⟩ := k4; exact DataW.trod_lt m _ _ _ hm
  obtain ⟨cs0, rfl, hcl0, hlf0⟩ := open_leafs Try.underlying56 leafs0 (hval 0 56 v0 rfl rfl) h0
  rw [cells0] at hcl0
  obtain ⟨c0_0, c0_1, c0_2, c0_3, c0_4, c0_5, c0_6, c0_7, c0_8, rfl⟩ := list0 cs0 hcl0
  obtain ⟨_, _, t0_0⟩ := hlf0 3 0 (by simp)
  obtain ⟨i0_0, e0_0, _, hw0_0⟩ := DataW.trod_int Try.underlying3 t0_0
  simp only [List.drop_succ_cons, List.drop_zero, List.take_succ_cons, List.take_zero, List.cons.injEq, and_true] at e0_0
  obtain ⟨_, _, t0_1⟩ := hlf0 4 1 (by simp)
  simp only [List.drop_succ_cons, List.drop_zero, List.take_succ_cons, List.take_zero] at t0_1
  obtain ⟨b0_1, e0_1⟩ := open_bool' t0_1
  obtain ⟨_, _, t0_2⟩ := hlf0 24 2 (by simp)
  obtain ⟨i0_2, e0_2, _, hw0_2⟩ := DataW.trod_int Try.underlying24 t0_2
  simp only [List.drop_succ_cons, List.drop_zero, List.take_succ_cons, List.take_zero, List.cons.injEq, and_true] at e0_2
  obtain ⟨_, _, t0_3⟩ := hlf0 24 3 (by simp)
  obtain ⟨i0_3, e0_3, _, hw0_3⟩ := DataW.trod_int Try.underlying24 t0_3
  simp only [List.drop_succ_cons, List.drop_zero, List.take_succ_cons, List.take_zero, List.cons.injEq, and_true] at e0_3
  obtain ⟨_, _, t0_4⟩ := hlf0 4 4 (by simp)
  simp only [List.drop_succ_cons, List.drop_zero, List.take_succ_cons, List.take_zero] at t0_4
  obtain ⟨b0_4, e0_4⟩ := open_bool' t0_4
  obtain ⟨_, _, t0_5⟩ := hlf0 24 5 (by simp)
  obtain ⟨i0_5, e0_5, _, hw0_5⟩ := DataW.trod_int Try.underlying24 t0_5
  simp only [List.drop_succ_cons, List.drop_zero, List.take_succ_cons, List.take_zero, List.cons.injEq, and_true] at e0_5
  obtain ⟨_, _, t0_6⟩ := hlf0 24 6 (by simp)
  obtain ⟨i0_6, e0_6, _, hw0_6⟩ := DataW.trod_int Try.underlying24 t0_6
  simp only [List.drop_succ_cons, List.drop_zero, List.take_succ_cons, List.take_zero, List.cons.injEq, and_true] at e0_6
  obtain ⟨_, _, t0_7⟩ := hlf0 3 7 (by simp)
  obtain ⟨i0_7, e0_7, _, hw0_7⟩ := DataW.trod_int Try.underlying3 t0_7
  simp only [List.drop_succ_cons, List.drop_zero, List.take_succ_cons, List.take_zero, List.cons.injEq, and_true] at e0_7
  obtain ⟨_, _, t0_8⟩ := hlf0 3 8 (by simp)
  obtain ⟨i0_8, e0_8, _, hw0_8⟩ := DataW.trod_int Try.underlying3 t0_8
  simp only [List.drop_succ_cons, List.drop_zero, List.take_succ_cons, List.take_zero, List.cons.injEq, and_true] at e0_8
  subst e0_0 e0_1 e0_2 e0_3 e0_4 e0_5 e0_6 e0_7 e0_8
  obtain ⟨cs1, rfl, hcl1, hlf1⟩ := open_leafs Try.underlying26 leafs1 (hval 1 26 v1 rfl rfl) h1
  rw [cells1] at hcl1
  obtain ⟨c1_0, c1_1, c1_2, rfl⟩ := list1 cs1 hcl1
  obtain ⟨_, _, t1_0⟩ := hlf1 4 0 (by simp)
  simp only [List.drop_succ_cons, List.drop_zero, List.take_succ_cons, List.take_zero] at t1_0
  obtain ⟨b1_0, e1_0⟩ := open_bool' t1_0
  obtain ⟨_, _, t1_1⟩ := hlf1 24 1 (by simp)
  obtain ⟨i1_1, e1_1, _, hw1_1⟩ := DataW.trod_int Try.underlying24 t1_1
  simp only [List.drop_succ_cons, List.drop_zero, List.take_succ_cons, List.take_zero, List.cons.injEq, and_true] at e1_1
  obtain ⟨_, _, t1_2⟩ := hlf1 24 2 (by simp)
  obtain ⟨i1_2, e1_2, _, hw1_2⟩ := DataW.trod_int Try.underlying24 t1_2
  simp only [List.drop_succ_cons, List.drop_zero, List.take_succ_cons, List.take_zero, List.cons.injEq, and_true] at e1_2
  subst e1_0 e1_1 e1_2
  obtain ⟨i2, rfl, rfl, rfl, hw2⟩ := open_int Try.underlying3 (hval 2 3 v2 rfl rfl) h2
  obtain ⟨_, _, _, hs3⟩ := okWide_slice Try.underlying22 (hval 3 22 v3 rfl rfl)
  obtain ⟨f3, hf3⟩ := h3
  rw [show v3.cells.toList = [v3] by rw [hs3]; rfl] at hf3
  clear hs3
  obtain ⟨A3, n3, cp3, xs3, e3, hx3, hn3, hc3⟩ := open_bytes hf3
  subst e3
  obtain ⟨i4, rfl, rfl, rfl, hw4⟩ := open_int Try.underlying3 (hval 4 3 v4 rfl rfl) h4
  clear hA0 hval0
  refine (Pkt.tells_go i0_0 b0_1 i0_2 i0_3 b0_4 i0_5 i0_6 i0_7 i0_8 b1_0 i1_1 i1_2 i2 A3 n3 cp3 xs3 i4 W hw0_0 hw0_2 hw0_3 hw0_5 hw0_6 hw0_7 hw0_8 hw1_1 hw1_2 hw2 hx3 hn3 hc3 hw4).mono fun e W' ⟨he, bel⟩ => ?_
  subst he
  exact ⟨_, rfl, _, _, _, [], _, [], hW', trodAll_mk1 (shut_bool Try.underlying4 _), (trodAll_cons_mk (Below.trod laidOut (by kernel_rfl) (of_decide_eq_true (by kernel_rfl)) k0 bel lt0) (trodAll_cons_mk (Below.trod laidOut (by kernel_rfl) (of_decide_eq_true (by kernel_rfl)) k1 bel lt1) (trodAll_cons_mk (Below.trod laidOut (by kernel_rfl) (of_decide_eq_true (by kernel_rfl)) k2 bel lt2) (trodAll_cons_mk (Below.trod laidOut (by kernel_rfl) (of_decide_eq_true (by kernel_rfl)) k3 bel lt3) (trodAll_cons_mk (Below.trod laidOut (by kernel_rfl) (of_decide_eq_true (by kernel_rfl)) k4 bel lt4) trodAll_mk0))))), rfl, bel.frame _, fun h => by cases h⟩
theorem over : Rows.pktTellsRow.holds Try.pinned (OpenSpec.ofChange Rows.pktTellsSpec) :=
  OpenClaim.holds_of_wide 10 Try.f10 rfl rfl rfl rfl rfl rfl rfl ⟨rfl, rfl, rfl, rfl, rfl⟩ rfl rfl rfl rfl rfl (by kernel_rfl) Try.func10 (by kernel_rfl)
    (of_decide_eq_true (by kernel_rfl)) (by unfold Func.isWrapper; first | (rw [if_pos (by decide +kernel)]; kernel_rfl) | (rw [if_neg (by decide +kernel)]; exact ⟨rfl, rfl⟩))
    (fun os started H enc _ => lifted os started H enc)
end RowPktTells
theorem pktTells_holds : Rows.PktTellsSaid := RowPktTells.over
end Go.Proofs.Ytdmgbngdpjcliaa
