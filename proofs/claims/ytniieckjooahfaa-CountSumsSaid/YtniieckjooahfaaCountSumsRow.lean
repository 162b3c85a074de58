/- The statement CountSums for every input: the walk, met in the row. No condition. -/
import Derived.Test.YtniieckjooahfaaRows
import Derived.Test.YtniieckjooahfaaOpen
import Derived.Test.YtniieckjooahfaaCountSumsWalk
namespace Go.Proofs.Ytniieckjooahfaa
open Go.RowKit Go.ChangeShapes Go.WideShapes Go.ChangeAt Go.Deep
namespace RowCountSums
theorem list0 (l : List Value) (h : l.length = 29) : ∃ c0 c1 c2 c3 c4 c5 c6 c7 c8 c9 c10 c11 c12 c13 c14 c15 c16 c17 c18 c19 c20 c21 c22 c23 c24 c25 c26 c27 c28, l = [c0, c1, c2, c3, c4, c5, c6, c7, c8, c9, c10, c11, c12, c13, c14, c15, c16, c17, c18, c19, c20, c21, c22, c23, c24, c25, c26, c27, c28] := by
  match l, h with
  | [c0, c1, c2, c3, c4, c5, c6, c7, c8, c9, c10, c11, c12, c13, c14, c15, c16, c17, c18, c19, c20, c21, c22, c23, c24, c25, c26, c27, c28], _ => exact ⟨c0, c1, c2, c3, c4, c5, c6, c7, c8, c9, c10, c11, c12, c13, c14, c15, c16, c17, c18, c19, c20, c21, c22, c23, c24, c25, c26, c27, c28, rfl⟩
theorem leafs0 : leafsOf Try.prog 5 59 0 = some [(2, 0), (2, 1), (2, 2), (2, 3), (2, 4), (2, 5), (2, 6), (2, 7), (2, 8), (2, 9), (2, 10), (2, 11), (2, 12), (2, 13), (2, 14), (2, 15), (2, 16), (2, 17), (2, 18), (2, 19), (2, 20), (2, 21), (2, 22), (2, 23), (2, 24), (2, 25), (2, 26), (2, 27), (2, 28)] := by kernel_rfl
theorem cells0 : Try.prog.cellsOf 59 = 29 := by kernel_rfl
theorem under0 : ∃ fs, Try.prog.underlying 59 = some (.struct fs) := ⟨_, Try.underlying59⟩
theorem list1 (l : List Value) (h : l.length = 29) : ∃ c0 c1 c2 c3 c4 c5 c6 c7 c8 c9 c10 c11 c12 c13 c14 c15 c16 c17 c18 c19 c20 c21 c22 c23 c24 c25 c26 c27 c28, l = [c0, c1, c2, c3, c4, c5, c6, c7, c8, c9, c10, c11, c12, c13, c14, c15, c16, c17, c18, c19, c20, c21, c22, c23, c24, c25, c26, c27, c28] := by
  match l, h with
  | [c0, c1, c2, c3, c4, c5, c6, c7, c8, c9, c10, c11, c12, c13, c14, c15, c16, c17, c18, c19, c20, c21, c22, c23, c24, c25, c26, c27, c28], _ => exact ⟨c0, c1, c2, c3, c4, c5, c6, c7, c8, c9, c10, c11, c12, c13, c14, c15, c16, c17, c18, c19, c20, c21, c22, c23, c24, c25, c26, c27, c28, rfl⟩
theorem leafs1 : leafsOf Try.prog 5 59 0 = some [(2, 0), (2, 1), (2, 2), (2, 3), (2, 4), (2, 5), (2, 6), (2, 7), (2, 8), (2, 9), (2, 10), (2, 11), (2, 12), (2, 13), (2, 14), (2, 15), (2, 16), (2, 17), (2, 18), (2, 19), (2, 20), (2, 21), (2, 22), (2, 23), (2, 24), (2, 25), (2, 26), (2, 27), (2, 28)] := by kernel_rfl
theorem cells1 : Try.prog.cellsOf 59 = 29 := by kernel_rfl
theorem under1 : ∃ fs, Try.prog.underlying 59 = some (.struct fs) := ⟨_, Try.underlying59⟩
set_option maxRecDepth 100000 in
theorem lifted (os : Os) (started : os.Started) (H : Type) (enc : TypeId × Value → H) :
    ReturnsInHanded {} Try.checked os 8 .any (Rows.countSumsSpec.pre6 enc Try.prog Try.f8 Rows.countSumsRow.domain false) (Rows.countSumsSpec.post enc Try.prog Try.f8 false true false false) := by
  refine returnsInHanded_of_change (C := Try.checked) own started (by kernel_rfl) Try.func8
    (ChangeSpec.witness6 (enc := enc) (C := Try.checked) false ⟨#[], #[.agg #[.int .i64 0, .int .i64 0, .int .i64 0, .int .i64 0, .int .i64 0, .int .i64 0, .int .i64 0, .int .i64 0, .int .i64 0, .int .i64 0, .int .i64 0, .int .i64 0, .int .i64 0, .int .i64 0, .int .i64 0, .int .i64 0, .int .i64 0, .int .i64 0, .int .i64 0, .int .i64 0, .int .i64 0, .int .i64 0, .int .i64 0, .int .i64 0, .int .i64 0, .int .i64 0, .int .i64 0, .int .i64 0, .int .i64 0], .agg #[.int .i64 0, .int .i64 0, .int .i64 0, .int .i64 0, .int .i64 0, .int .i64 0, .int .i64 0, .int .i64 0, .int .i64 0, .int .i64 0, .int .i64 0, .int .i64 0, .int .i64 0, .int .i64 0, .int .i64 0, .int .i64 0, .int .i64 0, .int .i64 0, .int .i64 0, .int .i64 0, .int .i64 0, .int .i64 0, .int .i64 0, .int .i64 0, .int .i64 0, .int .i64 0, .int .i64 0, .int .i64 0, .int .i64 0], .int .i64 0], []⟩ 8 (by kernel_rfl) (by kernel_rfl) (by kernel_rfl) (by kernel_rfl)) ?_
  intro W base args ds gs before hval0 hW hcnd _
  have hval : ∀ (j : Nat) t v, Try.f8.params[j]? = some t → args[j]? = some v → Value.okWide Try.prog W .any base t v := hval0
  have hW' := hW
  obtain ⟨p, q, hA0, hV, rfl, hfz, hnd⟩ := hW
  have hA : DataW.TrodAll enc Try.prog W 0 (fun _ => true) true Try.f8.params.toList args.toList ds p := hA0
  rw [Try.params8] at hA hval
  obtain ⟨v0, vs0, d0, ds0, p0, q0, hargs, rfl, rfl, h0, r0⟩ := trodAll_cons hA
  obtain ⟨v1, vs1, d1, ds1, p1, q1, rfl, rfl, rfl, h1, r1⟩ := trodAll_cons r0
  obtain ⟨v2, vs2, d2, ds2, p2, q2, rfl, rfl, rfl, h2, r2⟩ := trodAll_cons r1
  obtain ⟨rfl, rfl, rfl⟩ := trodAll_nil r2
  obtain rfl : args = #[v0, v1, v2] := by cases args; simp_all
  obtain ⟨rfl, rfl⟩ := trodVars_none hV
  have k0 := h0
  have lt0 : ∀ x ∈ p0, x.block < W.heap.size := by obtain ⟨m, hm⟩ := k0; exact DataW.trod_lt m _ _ _ hm
  have k1 := h1
  have lt1 : ∀ x ∈ p1, x.block < W.heap.size := by obtain ⟨m, hm⟩ := k1; exact DataW.trod_lt m _ _ _ hm
  have k2 := h2
  have lt2 : ∀ x ∈ p2, x.block < W.heap.size := by obtain ⟨m, hm⟩ := k2; exact DataW.trod_lt m _ _ _ hm
  obtain ⟨cs0, rfl, hcl0, hlf0⟩ := open_leafs Try.underlying59 leafs0 (hval 0 59 v0 rfl rfl) h0
  rw [cells0] at hcl0
  obtain ⟨c0_0, c0_1, c0_2, c0_3, c0_4, c0_5, c0_6, c0_7, c0_8, c0_9, c0_10, c0_11, c0_12, c0_13, c0_14, c0_15, c0_16, c0_17, c0_18, c0_19, c0_20, c0_21, c0_22, c0_23, c0_24, c0_25, c0_26, c0_27, c0_28, rfl⟩ := list0 cs0 hcl0
  obtain ⟨_, _, t0_0⟩ := hlf0 2 0 (by simp)
  obtain ⟨i0_0, e0_0, _, hw0_0⟩ := DataW.trod_int Try.underlying2 t0_0
  simp only [List.drop_succ_cons, List.drop_zero, List.take_succ_cons, List.take_zero, List.cons.injEq, and_true] at e0_0
  obtain ⟨_, _, t0_1⟩ := hlf0 2 1 (by simp)
  obtain ⟨i0_1, e0_1, _, hw0_1⟩ := DataW.trod_int Try.underlying2 t0_1
  simp only [List.drop_succ_cons, List.drop_zero, List.take_succ_cons, List.take_zero, List.cons.injEq, and_true] at e0_1
  obtain ⟨_, _, t0_2⟩ := hlf0 2 2 (by simp)
  obtain ⟨i0_2, e0_2, _, hw0_2⟩ := DataW.trod_int Try.underlying2 t0_2
  simp only [List.drop_succ_cons, List.drop_zero, List.take_succ_cons, List.take_zero, List.cons.injEq, and_true] at e0_2
  obtain ⟨_, _, t0_3⟩ := hlf0 2 3 (by simp)
  obtain ⟨i0_3, e0_3, _, hw0_3⟩ := DataW.trod_int Try.underlying2 t0_3
  simp only [List.drop_succ_cons, List.drop_zero, List.take_succ_cons, List.take_zero, List.cons.injEq, and_true] at e0_3
  obtain ⟨_, _, t0_4⟩ := hlf0 2 4 (by simp)
  obtain ⟨i0_4, e0_4, _, hw0_4⟩ := DataW.trod_int Try.underlying2 t0_4
  simp only [List.drop_succ_cons, List.drop_zero, List.take_succ_cons, List.take_zero, List.cons.injEq, and_true] at e0_4
  obtain ⟨_, _, t0_5⟩ := hlf0 2 5 (by simp)
  obtain ⟨i0_5, e0_5, _, hw0_5⟩ := DataW.trod_int Try.underlying2 t0_5
  simp only [List.drop_succ_cons, List.drop_zero, List.take_succ_cons, List.take_zero, List.cons.injEq, and_true] at e0_5
  obtain ⟨_, _, t0_6⟩ := hlf0 2 6 (by simp)
  obtain ⟨i0_6, e0_6, _, hw0_6⟩ := DataW.trod_int Try.underlying2 t0_6
  simp only [List.drop_succ_cons, List.drop_zero, List.take_succ_cons, List.take_zero, List.cons.injEq, and_true] at e0_6
  obtain ⟨_, _, t0_7⟩ := hlf0 2 7 (by simp)
  obtain ⟨i0_7, e0_7, _, hw0_7⟩ := DataW.trod_int Try.underlying2 t0_7
  simp only [List.drop_succ_cons, List.drop_zero, List.take_succ_cons, List.take_zero, List.cons.injEq, and_true] at e0_7
  obtain ⟨_, _, t0_8⟩ := hlf0 2 8 (by simp)
  obtain ⟨i0_8, e0_8, _, hw0_8⟩ := DataW.trod_int Try.underlying2 t0_8
  simp only [List.drop_succ_cons, List.drop_zero, List.take_succ_cons, List.take_zero, List.cons.injEq, and_true] at e0_8
  obtain ⟨_, _, t0_9⟩ := hlf0 2 9 (by simp)
  obtain ⟨i0_9, e0_9, _, hw0_9⟩ := DataW.trod_int Try.underlying2 t0_9
  simp only [List.drop_succ_cons, List.drop_zero, List.take_succ_cons, List.take_zero, List.cons.injEq, and_true] at e0_9
  obtain ⟨_, _, t0_10⟩ := hlf0 2 10 (by simp)
  obtain ⟨i0_10, e0_10, _, hw0_10⟩ := DataW.trod_int Try.underlying2 t0_10
  simp only [List.drop_succ_cons, List.drop_zero, List.take_succ_cons, List.take_zero, List.cons.injEq, and_true] at e0_10
  obtain ⟨_, _, t0_11⟩ := hlf0 2 11 (by simp)
  obtain ⟨i0_11, e0_11, _, hw0_11⟩ := DataW.trod_int Try.underlying2 t0_11
  simp only [List.drop_succ_cons, List.drop_zero, List.take_succ_cons, List.take_zero, List.cons.injEq, and_true] at e0_11
  obtain ⟨_, _, t0_12⟩ := hlf0 2 12 (by simp)
  obtain ⟨i0_12, e0_12, _, hw0_12⟩ := DataW.trod_int Try.underlying2 t0_12
  simp only [List.drop_succ_cons, List.drop_zero, List.take_succ_cons, List.take_zero, List.cons.injEq, and_true] at e0_12
  obtain ⟨_, _, t0_13⟩ := hlf0 2 13 (by simp)
  obtain ⟨i0_13, e0_13, _, hw0_13⟩ := DataW.trod_int Try.underlying2 t0_13
  simp only [List.drop_succ_cons, List.drop_zero, List.take_succ_cons, List.take_zero, List.cons.injEq, and_true] at e0_13
  obtain ⟨_, _, t0_14⟩ := hlf0 2 14 (by simp)
  obtain ⟨i0_14, e0_14, _, hw0_14⟩ := DataW.trod_int Try.underlying2 t0_14
  simp only [List.drop_succ_cons, List.drop_zero, List.take_succ_cons, List.take_zero, List.cons.injEq, and_true] at e0_14
  obtain ⟨_, _, t0_15⟩ := hlf0 2 15 (by simp)
  obtain ⟨i0_15, e0_15, _, hw0_15⟩ := DataW.trod_int Try.underlying2 t0_15
  simp only [List.drop_succ_cons, List.drop_zero, List.take_succ_cons, List.take_zero, List.cons.injEq, and_true] at e0_15
  obtain ⟨_, _, t0_16⟩ := hlf0 2 16 (by simp)
  obtain ⟨i0_16, e0_16, _, hw0_16⟩ := DataW.trod_int Try.underlying2 t0_16
  simp only [List.drop_succ_cons, List.drop_zero, List.take_succ_cons, List.take_zero, List.cons.injEq, and_true] at e0_16
  obtain ⟨_, _, t0_17⟩ := hlf0 2 17 (by simp)
  obtain ⟨i0_17, e0_17, _, hw0_17⟩ := DataW.trod_int Try.underlying2 t0_17
  simp only [List.drop_succ_cons, List.drop_zero, List.take_succ_cons, List.take_zero, List.cons.injEq, and_true] at e0_17
  obtain ⟨_, _, t0_18⟩ := hlf0 2 18 (by simp)
  obtain ⟨i0_18, e0_18, _, hw0_18⟩ := DataW.trod_int Try.underlying2 t0_18
  simp only [List.drop_succ_cons, List.drop_zero, List.take_succ_cons, List.take_zero, List.cons.injEq, and_true] at e0_18
  obtain ⟨_, _, t0_19⟩ := hlf0 2 19 (by simp)
  obtain ⟨i0_19, e0_19, _, hw0_19⟩ := DataW.trod_int Try.underlying2 t0_19
  simp only [List.drop_succ_cons, List.drop_zero, List.take_succ_cons, List.take_zero, List.cons.injEq, and_true] at e0_19
  obtain ⟨_, _, t0_20⟩ := hlf0 2 20 (by simp)
  obtain ⟨i0_20, e0_20, _, hw0_20⟩ := DataW.trod_int Try.underlying2 t0_20
  simp only [List.drop_succ_cons, List.drop_zero, List.take_succ_cons, List.take_zero, List.cons.injEq, and_true] at e0_20
  obtain ⟨_, _, t0_21⟩ := hlf0 2 21 (by simp)
  obtain ⟨i0_21, e0_21, _, hw0_21⟩ := DataW.trod_int Try.underlying2 t0_21
  simp only [List.drop_succ_cons, List.drop_zero, List.take_succ_cons, List.take_zero, List.cons.injEq, and_true] at e0_21
  obtain ⟨_, _, t0_22⟩ := hlf0 2 22 (by simp)
  obtain ⟨i0_22, e0_22, _, hw0_22⟩ := DataW.trod_int Try.underlying2 t0_22
  simp only [List.drop_succ_cons, List.drop_zero, List.take_succ_cons, List.take_zero, List.cons.injEq, and_true] at e0_22
  obtain ⟨_, _, t0_23⟩ := hlf0 2 23 (by simp)
  obtain ⟨i0_23, e0_23, _, hw0_23⟩ := DataW.trod_int Try.underlying2 t0_23
  simp only [List.drop_succ_cons, List.drop_zero, List.take_succ_cons, List.take_zero, List.cons.injEq, and_true] at e0_23
  obtain ⟨_, _, t0_24⟩ := hlf0 2 24 (by simp)
  obtain ⟨i0_24, e0_24, _, hw0_24⟩ := DataW.trod_int Try.underlying2 t0_24
  simp only [List.drop_succ_cons, List.drop_zero, List.take_succ_cons, List.take_zero, List.cons.injEq, and_true] at e0_24
  obtain ⟨_, _, t0_25⟩ := hlf0 2 25 (by simp)
  obtain ⟨i0_25, e0_25, _, hw0_25⟩ := DataW.trod_int Try.underlying2 t0_25
  simp only [List.drop_succ_cons, List.drop_zero, List.take_succ_cons, List.take_zero, List.cons.injEq, and_true] at e0_25
  obtain ⟨_, _, t0_26⟩ := hlf0 2 26 (by simp)
  obtain ⟨i0_26, e0_26, _, hw0_26⟩ := DataW.trod_int Try.underlying2 t0_26
  simp only [List.drop_succ_cons, List.drop_zero, List.take_succ_cons, List.take_zero, List.cons.injEq, and_true] at e0_26
  obtain ⟨_, _, t0_27⟩ := hlf0 2 27 (by simp)
  obtain ⟨i0_27, e0_27, _, hw0_27⟩ := DataW.trod_int Try.underlying2 t0_27
  simp only [List.drop_succ_cons, List.drop_zero, List.take_succ_cons, List.take_zero, List.cons.injEq, and_true] at e0_27
  obtain ⟨_, _, t0_28⟩ := hlf0 2 28 (by simp)
  obtain ⟨i0_28, e0_28, _, hw0_28⟩ := DataW.trod_int Try.underlying2 t0_28
  simp only [List.drop_succ_cons, List.drop_zero, List.take_succ_cons, List.take_zero, List.cons.injEq, and_true] at e0_28
  subst e0_0 e0_1 e0_2 e0_3 e0_4 e0_5 e0_6 e0_7 e0_8 e0_9 e0_10 e0_11 e0_12 e0_13 e0_14 e0_15 e0_16 e0_17 e0_18 e0_19 e0_20 e0_21 e0_22 e0_23 e0_24 e0_25 e0_26 e0_27 e0_28
  obtain ⟨cs1, rfl, hcl1, hlf1⟩ := open_leafs Try.underlying59 leafs1 (hval 1 59 v1 rfl rfl) h1
  rw [cells1] at hcl1
  obtain ⟨c1_0, c1_1, c1_2, c1_3, c1_4, c1_5, c1_6, c1_7, c1_8, c1_9, c1_10, c1_11, c1_12, c1_13, c1_14, c1_15, c1_16, c1_17, c1_18, c1_19, c1_20, c1_21, c1_22, c1_23, c1_24, c1_25, c1_26, c1_27, c1_28, rfl⟩ := list1 cs1 hcl1
  obtain ⟨_, _, t1_0⟩ := hlf1 2 0 (by simp)
  obtain ⟨i1_0, e1_0, _, hw1_0⟩ := DataW.trod_int Try.underlying2 t1_0
  simp only [List.drop_succ_cons, List.drop_zero, List.take_succ_cons, List.take_zero, List.cons.injEq, and_true] at e1_0
  obtain ⟨_, _, t1_1⟩ := hlf1 2 1 (by simp)
  obtain ⟨i1_1, e1_1, _, hw1_1⟩ := DataW.trod_int Try.underlying2 t1_1
  simp only [List.drop_succ_cons, List.drop_zero, List.take_succ_cons, List.take_zero, List.cons.injEq, and_true] at e1_1
  obtain ⟨_, _, t1_2⟩ := hlf1 2 2 (by simp)
  obtain ⟨i1_2, e1_2, _, hw1_2⟩ := DataW.trod_int Try.underlying2 t1_2
  simp only [List.drop_succ_cons, List.drop_zero, List.take_succ_cons, List.take_zero, List.cons.injEq, and_true] at e1_2
  obtain ⟨_, _, t1_3⟩ := hlf1 2 3 (by simp)
  obtain ⟨i1_3, e1_3, _, hw1_3⟩ := DataW.trod_int Try.underlying2 t1_3
  simp only [List.drop_succ_cons, List.drop_zero, List.take_succ_cons, List.take_zero, List.cons.injEq, and_true] at e1_3
  obtain ⟨_, _, t1_4⟩ := hlf1 2 4 (by simp)
  obtain ⟨i1_4, e1_4, _, hw1_4⟩ := DataW.trod_int Try.underlying2 t1_4
  simp only [List.drop_succ_cons, List.drop_zero, List.take_succ_cons, List.take_zero, List.cons.injEq, and_true] at e1_4
  obtain ⟨_, _, t1_5⟩ := hlf1 2 5 (by simp)
  obtain ⟨i1_5, e1_5, _, hw1_5⟩ := DataW.trod_int Try.underlying2 t1_5
  simp only [List.drop_succ_cons, List.drop_zero, List.take_succ_cons, List.take_zero, List.cons.injEq, and_true] at e1_5
  obtain ⟨_, _, t1_6⟩ := hlf1 2 6 (by simp)
  obtain ⟨i1_6, e1_6, _, hw1_6⟩ := DataW.trod_int Try.underlying2 t1_6
  simp only [List.drop_succ_cons, List.drop_zero, List.take_succ_cons, List.take_zero, List.cons.injEq, and_true] at e1_6
  obtain ⟨_, _, t1_7⟩ := hlf1 2 7 (by simp)
  obtain ⟨i1_7, e1_7, _, hw1_7⟩ := DataW.trod_int Try.underlying2 t1_7
  simp only [List.drop_succ_cons, List.drop_zero, List.take_succ_cons, List.take_zero, List.cons.injEq, and_true] at e1_7
  obtain ⟨_, _, t1_8⟩ := hlf1 2 8 (by simp)
  obtain ⟨i1_8, e1_8, _, hw1_8⟩ := DataW.trod_int Try.underlying2 t1_8
  simp only [List.drop_succ_cons, List.drop_zero, List.take_succ_cons, List.take_zero, List.cons.injEq, and_true] at e1_8
  obtain ⟨_, _, t1_9⟩ := hlf1 2 9 (by simp)
  obtain ⟨i1_9, e1_9, _, hw1_9⟩ := DataW.trod_int Try.underlying2 t1_9
  simp only [List.drop_succ_cons, List.drop_zero, List.take_succ_cons, List.take_zero, List.cons.injEq, and_true] at e1_9
  obtain ⟨_, _, t1_10⟩ := hlf1 2 10 (by simp)
  obtain ⟨i1_10, e1_10, _, hw1_10⟩ := DataW.trod_int Try.underlying2 t1_10
  simp only [List.drop_succ_cons, List.drop_zero, List.take_succ_cons, List.take_zero, List.cons.injEq, and_true] at e1_10
  obtain ⟨_, _, t1_11⟩ := hlf1 2 11 (by simp)
  obtain ⟨i1_11, e1_11, _, hw1_11⟩ := DataW.trod_int Try.underlying2 t1_11
  simp only [List.drop_succ_cons, List.drop_zero, List.take_succ_cons, List.take_zero, List.cons.injEq, and_true] at e1_11
  obtain ⟨_, _, t1_12⟩ := hlf1 2 12 (by simp)
  obtain ⟨i1_12, e1_12, _, hw1_12⟩ := DataW.trod_int Try.underlying2 t1_12
  simp only [List.drop_succ_cons, List.drop_zero, List.take_succ_cons, List.take_zero, List.cons.injEq, and_true] at e1_12
  obtain ⟨_, _, t1_13⟩ := hlf1 2 13 (by simp)
  obtain ⟨i1_13, e1_13, _, hw1_13⟩ := DataW.trod_int Try.underlying2 t1_13
  simp only [List.drop_succ_cons, List.drop_zero, List.take_succ_cons, List.take_zero, List.cons.injEq, and_true] at e1_13
  obtain ⟨_, _, t1_14⟩ := hlf1 2 14 (by simp)
  obtain ⟨i1_14, e1_14, _, hw1_14⟩ := DataW.trod_int Try.underlying2 t1_14
  simp only [List.drop_succ_cons, List.drop_zero, List.take_succ_cons, List.take_zero, List.cons.injEq, and_true] at e1_14
  obtain ⟨_, _, t1_15⟩ := hlf1 2 15 (by simp)
  obtain ⟨i1_15, e1_15, _, hw1_15⟩ := DataW.trod_int Try.underlying2 t1_15
  simp only [List.drop_succ_cons, List.drop_zero, List.take_succ_cons, List.take_zero, List.cons.injEq, and_true] at e1_15
  obtain ⟨_, _, t1_16⟩ := hlf1 2 16 (by simp)
  obtain ⟨i1_16, e1_16, _, hw1_16⟩ := DataW.trod_int Try.underlying2 t1_16
  simp only [List.drop_succ_cons, List.drop_zero, List.take_succ_cons, List.take_zero, List.cons.injEq, and_true] at e1_16
  obtain ⟨_, _, t1_17⟩ := hlf1 2 17 (by simp)
  obtain ⟨i1_17, e1_17, _, hw1_17⟩ := DataW.trod_int Try.underlying2 t1_17
  simp only [List.drop_succ_cons, List.drop_zero, List.take_succ_cons, List.take_zero, List.cons.injEq, and_true] at e1_17
  obtain ⟨_, _, t1_18⟩ := hlf1 2 18 (by simp)
  obtain ⟨i1_18, e1_18, _, hw1_18⟩ := DataW.trod_int Try.underlying2 t1_18
  simp only [List.drop_succ_cons, List.drop_zero, List.take_succ_cons, List.take_zero, List.cons.injEq, and_true] at e1_18
  obtain ⟨_, _, t1_19⟩ := hlf1 2 19 (by simp)
  obtain ⟨i1_19, e1_19, _, hw1_19⟩ := DataW.trod_int Try.underlying2 t1_19
  simp only [List.drop_succ_cons, List.drop_zero, List.take_succ_cons, List.take_zero, List.cons.injEq, and_true] at e1_19
  obtain ⟨_, _, t1_20⟩ := hlf1 2 20 (by simp)
  obtain ⟨i1_20, e1_20, _, hw1_20⟩ := DataW.trod_int Try.underlying2 t1_20
  simp only [List.drop_succ_cons, List.drop_zero, List.take_succ_cons, List.take_zero, List.cons.injEq, and_true] at e1_20
  obtain ⟨_, _, t1_21⟩ := hlf1 2 21 (by simp)
  obtain ⟨i1_21, e1_21, _, hw1_21⟩ := DataW.trod_int Try.underlying2 t1_21
  simp only [List.drop_succ_cons, List.drop_zero, List.take_succ_cons, List.take_zero, List.cons.injEq, and_true] at e1_21
  obtain ⟨_, _, t1_22⟩ := hlf1 2 22 (by simp)
  obtain ⟨i1_22, e1_22, _, hw1_22⟩ := DataW.trod_int Try.underlying2 t1_22
  simp only [List.drop_succ_cons, List.drop_zero, List.take_succ_cons, List.take_zero, List.cons.injEq, and_true] at e1_22
  obtain ⟨_, _, t1_23⟩ := hlf1 2 23 (by simp)
  obtain ⟨i1_23, e1_23, _, hw1_23⟩ := DataW.trod_int Try.underlying2 t1_23
  simp only [List.drop_succ_cons, List.drop_zero, List.take_succ_cons, List.take_zero, List.cons.injEq, and_true] at e1_23
  obtain ⟨_, _, t1_24⟩ := hlf1 2 24 (by simp)
  obtain ⟨i1_24, e1_24, _, hw1_24⟩ := DataW.trod_int Try.underlying2 t1_24
  simp only [List.drop_succ_cons, List.drop_zero, List.take_succ_cons, List.take_zero, List.cons.injEq, and_true] at e1_24
  obtain ⟨_, _, t1_25⟩ := hlf1 2 25 (by simp)
  obtain ⟨i1_25, e1_25, _, hw1_25⟩ := DataW.trod_int Try.underlying2 t1_25
  simp only [List.drop_succ_cons, List.drop_zero, List.take_succ_cons, List.take_zero, List.cons.injEq, and_true] at e1_25
  obtain ⟨_, _, t1_26⟩ := hlf1 2 26 (by simp)
  obtain ⟨i1_26, e1_26, _, hw1_26⟩ := DataW.trod_int Try.underlying2 t1_26
  simp only [List.drop_succ_cons, List.drop_zero, List.take_succ_cons, List.take_zero, List.cons.injEq, and_true] at e1_26
  obtain ⟨_, _, t1_27⟩ := hlf1 2 27 (by simp)
  obtain ⟨i1_27, e1_27, _, hw1_27⟩ := DataW.trod_int Try.underlying2 t1_27
  simp only [List.drop_succ_cons, List.drop_zero, List.take_succ_cons, List.take_zero, List.cons.injEq, and_true] at e1_27
  obtain ⟨_, _, t1_28⟩ := hlf1 2 28 (by simp)
  obtain ⟨i1_28, e1_28, _, hw1_28⟩ := DataW.trod_int Try.underlying2 t1_28
  simp only [List.drop_succ_cons, List.drop_zero, List.take_succ_cons, List.take_zero, List.cons.injEq, and_true] at e1_28
  subst e1_0 e1_1 e1_2 e1_3 e1_4 e1_5 e1_6 e1_7 e1_8 e1_9 e1_10 e1_11 e1_12 e1_13 e1_14 e1_15 e1_16 e1_17 e1_18 e1_19 e1_20 e1_21 e1_22 e1_23 e1_24 e1_25 e1_26 e1_27 e1_28
  obtain ⟨i2, rfl, rfl, rfl, hw2⟩ := open_int Try.underlying3 (hval 2 3 v2 rfl rfl) h2
  clear hA0 hval0
  refine (Count.sums_row [i0_0, i0_1, i0_2, i0_3, i0_4, i0_5, i0_6, i0_7, i0_8, i0_9, i0_10, i0_11, i0_12, i0_13, i0_14, i0_15, i0_16, i0_17, i0_18, i0_19, i0_20, i0_21, i0_22, i0_23, i0_24, i0_25, i0_26, i0_27, i0_28] [i1_0, i1_1, i1_2, i1_3, i1_4, i1_5, i1_6, i1_7, i1_8, i1_9, i1_10, i1_11, i1_12, i1_13, i1_14, i1_15, i1_16, i1_17, i1_18, i1_19, i1_20, i1_21, i1_22, i1_23, i1_24, i1_25, i1_26, i1_27, i1_28] i2 W rfl rfl hw2).mono fun e W' ⟨he, bel⟩ => ?_
  subst he
  exact ⟨_, rfl, _, _, _, [], _, [], hW', trodAll_mk1 (shut_bool Try.underlying4 _), (trodAll_cons_mk (Below.trod laidOut (by kernel_rfl) (of_decide_eq_true (by kernel_rfl)) k0 bel lt0) (trodAll_cons_mk (Below.trod laidOut (by kernel_rfl) (of_decide_eq_true (by kernel_rfl)) k1 bel lt1) (trodAll_cons_mk (Below.trod laidOut (by kernel_rfl) (of_decide_eq_true (by kernel_rfl)) k2 bel lt2) trodAll_mk0))), rfl, bel.frame _, fun h => by cases h⟩
theorem over : Rows.countSumsRow.holds Try.pinned (OpenSpec.ofChange Rows.countSumsSpec) :=
  OpenClaim.holds_of_wide 8 Try.f8 rfl rfl rfl rfl rfl rfl rfl ⟨rfl, rfl, rfl, rfl, rfl⟩ rfl rfl rfl rfl rfl (by kernel_rfl) Try.func8 (by kernel_rfl)
    (of_decide_eq_true (by kernel_rfl)) (by unfold Func.isWrapper; first | (rw [if_pos (by decide +kernel)]; kernel_rfl) | (rw [if_neg (by decide +kernel)]; exact ⟨rfl, rfl⟩))
    (fun os started H enc _ => lifted os started H enc)
end RowCountSums
theorem countSums_holds : Rows.CountSumsSaid := RowCountSums.over
end Go.Proofs.Ytniieckjooahfaa
