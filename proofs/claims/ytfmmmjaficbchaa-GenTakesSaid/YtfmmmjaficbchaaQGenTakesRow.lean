/- The statement GenTakes for every input: the walk, met in the row. No condition. -/
import Derived.Test.YtfmmmjaficbchaaRows
import Derived.Test.YtfmmmjaficbchaaQNatFlows2
import Derived.Test.YtfmmmjaficbchaaQGenTakes1
namespace Go.Proofs.Ytfmmmjaficbchaa
open Go.RowKit Go.ChangeShapes Go.WideShapes Go.ChangeAt Go.Deep
namespace RowGenTakes
theorem list0 (l : List Value) (h : l.length = 11) : ∃ c0 c1 c2 c3 c4 c5 c6 c7 c8 c9 c10, l = [c0, c1, c2, c3, c4, c5, c6, c7, c8, c9, c10] := by
  match l, h with
  | [c0, c1, c2, c3, c4, c5, c6, c7, c8, c9, c10], _ => exact ⟨c0, c1, c2, c3, c4, c5, c6, c7, c8, c9, c10, rfl⟩
theorem leafs0 : leafsOf Try.prog 5 51 0 = some [(24, 0), (3, 1), (3, 2), (4, 3), (24, 4), (24, 5), (3, 6), (3, 7), (3, 8), (4, 9), (3, 10)] := by kernel_rfl
theorem cells0 : Try.prog.cellsOf 51 = 11 := by kernel_rfl
theorem under0 : ∃ fs, Try.prog.underlying 51 = some (.struct fs) := ⟨_, Try.underlying51⟩
set_option maxRecDepth 100000 in
theorem lifted (os : Os) (started : os.Started) (H : Type) (enc : TypeId × Value → H) :
    ReturnsInHanded {} Try.checked os 9 .any (Rows.genTakesSpec.pre6 enc Try.prog Try.f9 Rows.genTakesRow.domain false) (Rows.genTakesSpec.post enc Try.prog Try.f9 false true false false) := by
  refine returnsInHanded_of_change (C := Try.checked) own started (by kernel_rfl) Try.func9
    (ChangeSpec.witness6 (enc := enc) (C := Try.checked) false ⟨#[], #[.agg #[.int .u64 0, .int .i64 0, .int .i64 0, .bool false, .int .u64 0, .int .u64 0, .int .i64 0, .int .i64 0, .int .i64 0, .bool false, .int .i64 0], .int .i64 0], []⟩ 8 (by kernel_rfl) (by kernel_rfl) (by kernel_rfl) (by kernel_rfl)) ?_
  intro W base args ds gs before hval0 hW hcnd _
  have hval : ∀ (j : Nat) t v, Try.f9.params[j]? = some t → args[j]? = some v → Value.okWide Try.prog W .any base t v := hval0
  have hW' := hW
  obtain ⟨p, q, hA0, hV, rfl, hfz, hnd⟩ := hW
  have hA : DataW.TrodAll enc Try.prog W 0 (fun _ => true) true Try.f9.params.toList args.toList ds p := hA0
  rw [Try.params9] at hA hval
  obtain ⟨v0, vs0, d0, ds0, p0, q0, hargs, rfl, rfl, h0, r0⟩ := trodAll_cons hA
  obtain ⟨v1, vs1, d1, ds1, p1, q1, rfl, rfl, rfl, h1, r1⟩ := trodAll_cons r0
  obtain ⟨rfl, rfl, rfl⟩ := trodAll_nil r1
  obtain rfl : args = #[v0, v1] := by cases args; simp_all
  obtain ⟨rfl, rfl⟩ := trodVars_none hV
  have k0 := h0
  have lt0 : ∀ x ∈ p0, x.block < W.heap.size := by obtain ⟨m, hm⟩ := k0; exact DataW.trod_lt m _ _ _ hm
  have k1 := h1
  have lt1 : ∀ x ∈ p1, x.block < W.heap.size := by obtain ⟨m, hm⟩ := k1; exact DataW.trod_lt m _ _ _ hm
  obtain ⟨cs0, rfl, hcl0, hlf0⟩ := open_leafs Try.underlying51 leafs0 (hval 0 51 v0 rfl rfl) h0
  rw [cells0] at hcl0
  obtain ⟨c0_0, c0_1, c0_2, c0_3, c0_4, c0_5, c0_6, c0_7, c0_8, c0_9, c0_10, rfl⟩ := list0 cs0 hcl0
  obtain ⟨_, _, t0_0⟩ := hlf0 24 0 (by simp)
  obtain ⟨i0_0, e0_0, _, hw0_0⟩ := DataW.trod_int Try.underlying24 t0_0
  simp only [List.drop_succ_cons, List.drop_zero, List.take_succ_cons, List.take_zero, List.cons.injEq, and_true] at e0_0
  obtain ⟨_, _, t0_1⟩ := hlf0 3 1 (by simp)
  obtain ⟨i0_1, e0_1, _, hw0_1⟩ := DataW.trod_int Try.underlying3 t0_1
  simp only [List.drop_succ_cons, List.drop_zero, List.take_succ_cons, List.take_zero, List.cons.injEq, and_true] at e0_1
  obtain ⟨_, _, t0_2⟩ := hlf0 3 2 (by simp)
  obtain ⟨i0_2, e0_2, _, hw0_2⟩ := DataW.trod_int Try.underlying3 t0_2
  simp only [List.drop_succ_cons, List.drop_zero, List.take_succ_cons, List.take_zero, List.cons.injEq, and_true] at e0_2
  obtain ⟨_, _, t0_3⟩ := hlf0 4 3 (by simp)
  simp only [List.drop_succ_cons, List.drop_zero, List.take_succ_cons, List.take_zero] at t0_3
  obtain ⟨b0_3, e0_3⟩ := open_bool' t0_3
  obtain ⟨_, _, t0_4⟩ := hlf0 24 4 (by simp)
  obtain ⟨i0_4, e0_4, _, hw0_4⟩ := DataW.trod_int Try.underlying24 t0_4
  simp only [List.drop_succ_cons, List.drop_zero, List.take_succ_cons, List.take_zero, List.cons.injEq, and_true] at e0_4
  obtain ⟨_, _, t0_5⟩ := hlf0 24 5 (by simp)
  obtain ⟨i0_5, e0_5, _, hw0_5⟩ := DataW.trod_int Try.underlying24 t0_5
  simp only [List.drop_succ_cons, List.drop_zero, List.take_succ_cons, List.take_zero, List.cons.injEq, and_true] at e0_5
  obtain ⟨_, _, t0_6⟩ := hlf0 3 6 (by simp)
  obtain ⟨i0_6, e0_6, _, hw0_6⟩ := DataW.trod_int Try.underlying3 t0_6
  simp only [List.drop_succ_cons, List.drop_zero, List.take_succ_cons, List.take_zero, List.cons.injEq, and_true] at e0_6
  obtain ⟨_, _, t0_7⟩ := hlf0 3 7 (by simp)
  obtain ⟨i0_7, e0_7, _, hw0_7⟩ := DataW.trod_int Try.underlying3 t0_7
  simp only [List.drop_succ_cons, List.drop_zero, List.take_succ_cons, List.take_zero, List.cons.injEq, and_true] at e0_7
  obtain ⟨_, _, t0_8⟩ := hlf0 3 8 (by simp)
  obtain ⟨i0_8, e0_8, _, hw0_8⟩ := DataW.trod_int Try.underlying3 t0_8
  simp only [List.drop_succ_cons, List.drop_zero, List.take_succ_cons, List.take_zero, List.cons.injEq, and_true] at e0_8
  obtain ⟨_, _, t0_9⟩ := hlf0 4 9 (by simp)
  simp only [List.drop_succ_cons, List.drop_zero, List.take_succ_cons, List.take_zero] at t0_9
  obtain ⟨b0_9, e0_9⟩ := open_bool' t0_9
  obtain ⟨_, _, t0_10⟩ := hlf0 3 10 (by simp)
  obtain ⟨i0_10, e0_10, _, hw0_10⟩ := DataW.trod_int Try.underlying3 t0_10
  simp only [List.drop_succ_cons, List.drop_zero, List.take_succ_cons, List.take_zero, List.cons.injEq, and_true] at e0_10
  subst e0_0 e0_1 e0_2 e0_3 e0_4 e0_5 e0_6 e0_7 e0_8 e0_9 e0_10
  obtain ⟨i1, rfl, rfl, rfl, hw1⟩ := open_int Try.underlying3 (hval 1 3 v1 rfl rfl) h1
  clear hA0 hval0
  refine (Gen35.genTakes_walk i0_0 i0_1 i0_2 b0_3 i0_4 i0_5 i0_6 i0_7 i0_8 b0_9 i0_10 i1 W hw0_0 hw0_1 hw0_2 hw0_4 hw0_5 hw0_6 hw0_7 hw0_8 hw0_10 hw1).mono fun e W' ⟨he, bel⟩ => ?_
  subst he
  exact ⟨_, rfl, _, _, _, [], _, [], hW', trodAll_mk1 (shut_bool Try.underlying4 _), (trodAll_cons_mk (Below.trod laidOut (by kernel_rfl) (of_decide_eq_true (by kernel_rfl)) k0 bel lt0) (trodAll_cons_mk (Below.trod laidOut (by kernel_rfl) (of_decide_eq_true (by kernel_rfl)) k1 bel lt1) trodAll_mk0)), rfl, bel.frame _, fun h => by cases h⟩
theorem over : Rows.genTakesRow.holds Try.pinned (OpenSpec.ofChange Rows.genTakesSpec) :=
  OpenClaim.holds_of_wide 9 Try.f9 rfl rfl rfl rfl rfl rfl rfl ⟨rfl, rfl, rfl, rfl, rfl⟩ rfl rfl rfl rfl rfl (by kernel_rfl) Try.func9 (by kernel_rfl)
    (of_decide_eq_true (by kernel_rfl)) (by unfold Func.isWrapper; first | (rw [if_pos (by decide +kernel)]; kernel_rfl) | (rw [if_neg (by decide +kernel)]; exact ⟨rfl, rfl⟩))
    (fun os started H enc _ => lifted os started H enc)
end RowGenTakes
theorem genTakes_holds : Rows.GenTakesSaid := RowGenTakes.over
end Go.Proofs.Ytfmmmjaficbchaa
