/- The statement FourPuts for every input: the walk, met in the row. No condition. -/
import Derived.Test.YtniieckjooahfaaRows
import Derived.Test.YtniieckjooahfaaOpen
import Derived.Test.YtniieckjooahfaaFourPutsWalk
namespace Go.Proofs.Ytniieckjooahfaa
open Go.RowKit Go.ChangeShapes Go.WideShapes Go.ChangeAt Go.Deep
namespace RowFourPuts
theorem list0 (l : List Value) (h : l.length = 14) : ∃ c0 c1 c2 c3 c4 c5 c6 c7 c8 c9 c10 c11 c12 c13, l = [c0, c1, c2, c3, c4, c5, c6, c7, c8, c9, c10, c11, c12, c13] := by
  match l, h with
  | [c0, c1, c2, c3, c4, c5, c6, c7, c8, c9, c10, c11, c12, c13], _ => exact ⟨c0, c1, c2, c3, c4, c5, c6, c7, c8, c9, c10, c11, c12, c13, rfl⟩
theorem leafs0 : leafsOf Try.prog 5 86 0 = some [(3, 0), (3, 1), (4, 2), (4, 3), (3, 4), (3, 5), (3, 6), (4, 7), (22, 8), (22, 9), (4, 10), (22, 11), (22, 12), (35, 13)] := by kernel_rfl
theorem cells0 : Try.prog.cellsOf 86 = 14 := by kernel_rfl
theorem under0 : ∃ fs, Try.prog.underlying 86 = some (.struct fs) := ⟨_, Try.underlying86⟩
set_option maxRecDepth 100000 in
theorem lifted (os : Os) (started : os.Started) (H : Type) (enc : TypeId × Value → H) :
    ReturnsInHanded {} Try.checked os 14 .any (Rows.fourPutsSpec.pre6 enc Try.prog Try.f14 Rows.fourPutsRow.domain false) (Rows.fourPutsSpec.post enc Try.prog Try.f14 false true false false) := by
  refine returnsInHanded_of_change (C := Try.checked) own started (by kernel_rfl) Try.func14
    (ChangeSpec.witness6 (enc := enc) (C := Try.checked) false ⟨#[], #[.agg #[.int .i64 0, .int .i64 0, .bool false, .bool false, .int .i64 0, .int .i64 0, .int .i64 0, .bool false, .int .u64 0, .int .u64 0, .bool false, .int .u64 0, .int .u64 0, .slice none 0 0], .slice none 0 0, .slice none 0 0], []⟩ 8 (by kernel_rfl) (by kernel_rfl) (by kernel_rfl) (by kernel_rfl)) ?_
  intro W base args ds gs before hval0 hW hcnd _
  have hval : ∀ (j : Nat) t v, Try.f14.params[j]? = some t → args[j]? = some v → Value.okWide Try.prog W .any base t v := hval0
  have hW' := hW
  obtain ⟨p, q, hA0, hV, rfl, hfz, hnd⟩ := hW
  have hA : DataW.TrodAll enc Try.prog W 0 (fun _ => true) true Try.f14.params.toList args.toList ds p := hA0
  rw [Try.params14] at hA hval
  obtain ⟨v0, vs0, d0, ds0, p0, q0, hargs, rfl, rfl, h0, r0⟩ := trodAll_cons hA
  obtain ⟨v1, vs1, d1, ds1, p1, q1, rfl, rfl, rfl, h1, r1⟩ := trodAll_cons r0
  obtain ⟨v2, vs2, d2, ds2, p2, q2, rfl, rfl, rfl, h2, r2⟩ := trodAll_cons r1
  obtain ⟨rfl, rfl, rfl⟩ := trodAll_nil r2
  obtain rfl : args = #[v0, v1, v2] := by cases args; simp_all
  obtain ⟨rfl, rfl⟩ := trodVars_none hV
  have k0 := h0
  have lt0 : ∀ x ∈ p0, x.block < W.heap.size := by obtain ⟨m, hm⟩ := k0; exact DataW.trod_lt m _ _ _ hm
  have k1 := h1
  have lt1 : ∀ x ∈ p1, x.block < W.heap.size := by obtain ⟨m, hm⟩ := k1; exact DataW.trod_lt m _ _ _ hm
  have k2 := h2
  have lt2 : ∀ x ∈ p2, x.block < W.heap.size := by obtain ⟨m, hm⟩ := k2; exact DataW.trod_lt m _ _ _ hm
  obtain ⟨cs0, rfl, hcl0, hlf0⟩ := open_leafs Try.underlying86 leafs0 (hval 0 86 v0 rfl rfl) h0
  rw [cells0] at hcl0
  obtain ⟨c0_0, c0_1, c0_2, c0_3, c0_4, c0_5, c0_6, c0_7, c0_8, c0_9, c0_10, c0_11, c0_12, c0_13, rfl⟩ := list0 cs0 hcl0
  obtain ⟨_, _, t0_0⟩ := hlf0 3 0 (by simp)
  obtain ⟨i0_0, e0_0, _, hw0_0⟩ := DataW.trod_int Try.underlying3 t0_0
  simp only [List.drop_succ_cons, List.drop_zero, List.take_succ_cons, List.take_zero, List.cons.injEq, and_true] at e0_0
  obtain ⟨_, _, t0_1⟩ := hlf0 3 1 (by simp)
  obtain ⟨i0_1, e0_1, _, hw0_1⟩ := DataW.trod_int Try.underlying3 t0_1
  simp only [List.drop_succ_cons, List.drop_zero, List.take_succ_cons, List.take_zero, List.cons.injEq, and_true] at e0_1
  obtain ⟨_, _, t0_2⟩ := hlf0 4 2 (by simp)
  simp only [List.drop_succ_cons, List.drop_zero, List.take_succ_cons, List.take_zero] at t0_2
  obtain ⟨b0_2, e0_2⟩ := open_bool' t0_2
  obtain ⟨_, _, t0_3⟩ := hlf0 4 3 (by simp)
  simp only [List.drop_succ_cons, List.drop_zero, List.take_succ_cons, List.take_zero] at t0_3
  obtain ⟨b0_3, e0_3⟩ := open_bool' t0_3
  obtain ⟨_, _, t0_4⟩ := hlf0 3 4 (by simp)
  obtain ⟨i0_4, e0_4, _, hw0_4⟩ := DataW.trod_int Try.underlying3 t0_4
  simp only [List.drop_succ_cons, List.drop_zero, List.take_succ_cons, List.take_zero, List.cons.injEq, and_true] at e0_4
  obtain ⟨_, _, t0_5⟩ := hlf0 3 5 (by simp)
  obtain ⟨i0_5, e0_5, _, hw0_5⟩ := DataW.trod_int Try.underlying3 t0_5
  simp only [List.drop_succ_cons, List.drop_zero, List.take_succ_cons, List.take_zero, List.cons.injEq, and_true] at e0_5
  obtain ⟨_, _, t0_6⟩ := hlf0 3 6 (by simp)
  obtain ⟨i0_6, e0_6, _, hw0_6⟩ := DataW.trod_int Try.underlying3 t0_6
  simp only [List.drop_succ_cons, List.drop_zero, List.take_succ_cons, List.take_zero, List.cons.injEq, and_true] at e0_6
  obtain ⟨_, _, t0_7⟩ := hlf0 4 7 (by simp)
  simp only [List.drop_succ_cons, List.drop_zero, List.take_succ_cons, List.take_zero] at t0_7
  obtain ⟨b0_7, e0_7⟩ := open_bool' t0_7
  obtain ⟨_, _, t0_8⟩ := hlf0 22 8 (by simp)
  obtain ⟨i0_8, e0_8, _, hw0_8⟩ := DataW.trod_int Try.underlying22 t0_8
  simp only [List.drop_succ_cons, List.drop_zero, List.take_succ_cons, List.take_zero, List.cons.injEq, and_true] at e0_8
  obtain ⟨_, _, t0_9⟩ := hlf0 22 9 (by simp)
  obtain ⟨i0_9, e0_9, _, hw0_9⟩ := DataW.trod_int Try.underlying22 t0_9
  simp only [List.drop_succ_cons, List.drop_zero, List.take_succ_cons, List.take_zero, List.cons.injEq, and_true] at e0_9
  obtain ⟨_, _, t0_10⟩ := hlf0 4 10 (by simp)
  simp only [List.drop_succ_cons, List.drop_zero, List.take_succ_cons, List.take_zero] at t0_10
  obtain ⟨b0_10, e0_10⟩ := open_bool' t0_10
  obtain ⟨_, _, t0_11⟩ := hlf0 22 11 (by simp)
  obtain ⟨i0_11, e0_11, _, hw0_11⟩ := DataW.trod_int Try.underlying22 t0_11
  simp only [List.drop_succ_cons, List.drop_zero, List.take_succ_cons, List.take_zero, List.cons.injEq, and_true] at e0_11
  obtain ⟨_, _, t0_12⟩ := hlf0 22 12 (by simp)
  obtain ⟨i0_12, e0_12, _, hw0_12⟩ := DataW.trod_int Try.underlying22 t0_12
  simp only [List.drop_succ_cons, List.drop_zero, List.take_succ_cons, List.take_zero, List.cons.injEq, and_true] at e0_12
  obtain ⟨_, _, t0_13⟩ := hlf0 35 13 (by simp)
  simp only [List.drop_succ_cons, List.drop_zero, List.take_succ_cons, List.take_zero] at t0_13
  obtain ⟨A0_13, n0_13, cp0_13, xs0_13, e0_13, hx0_13, hn0_13, hc0_13⟩ := open_bytes t0_13
  subst e0_0 e0_1 e0_2 e0_3 e0_4 e0_5 e0_6 e0_7 e0_8 e0_9 e0_10 e0_11 e0_12 e0_13
  obtain ⟨_, _, _, hs1⟩ := okWide_slice Try.underlying35 (hval 1 35 v1 rfl rfl)
  obtain ⟨f1, hf1⟩ := h1
  rw [show v1.cells.toList = [v1] by rw [hs1]; rfl] at hf1
  clear hs1
  obtain ⟨A1, n1, cp1, xs1, e1, hx1, hn1, hc1⟩ := open_bytes hf1
  subst e1
  obtain ⟨_, _, _, hs2⟩ := okWide_slice Try.underlying35 (hval 2 35 v2 rfl rfl)
  obtain ⟨f2, hf2⟩ := h2
  rw [show v2.cells.toList = [v2] by rw [hs2]; rfl] at hf2
  clear hs2
  obtain ⟨A2, n2, cp2, xs2, e2, hx2, hn2, hc2⟩ := open_bytes hf2
  subst e2
  clear hA0 hval0
  refine (Four.puts_walk i0_0 i0_1 b0_2 b0_3 i0_4 i0_5 i0_6 b0_7 i0_8 i0_9 b0_10 i0_11 i0_12 A0_13 n0_13 cp0_13 xs0_13 A1 n1 cp1 xs1 A2 n2 cp2 xs2 W hw0_0 hw0_1 hw0_4 hw0_5 hw0_6 hw0_8 hw0_9 hw0_11 hw0_12 hx0_13 hn0_13 hc0_13 hx1 hn1 hc1 hx2 hn2 hc2).mono fun e W' ⟨he, bel⟩ => ?_
  subst he
  exact ⟨_, rfl, _, _, _, [], _, [], hW', trodAll_mk1 (shut_bool Try.underlying4 _), (trodAll_cons_mk (Below.trod laidOut (by kernel_rfl) (of_decide_eq_true (by kernel_rfl)) k0 bel lt0) (trodAll_cons_mk (Below.trod laidOut (by kernel_rfl) (of_decide_eq_true (by kernel_rfl)) k1 bel lt1) (trodAll_cons_mk (Below.trod laidOut (by kernel_rfl) (of_decide_eq_true (by kernel_rfl)) k2 bel lt2) trodAll_mk0))), rfl, bel.frame _, fun h => by cases h⟩
theorem over : Rows.fourPutsRow.holds Try.pinned (OpenSpec.ofChange Rows.fourPutsSpec) :=
  OpenClaim.holds_of_wide 14 Try.f14 rfl rfl rfl rfl rfl rfl rfl ⟨rfl, rfl, rfl, rfl, rfl⟩ rfl rfl rfl rfl rfl (by kernel_rfl) Try.func14 (by kernel_rfl)
    (of_decide_eq_true (by kernel_rfl)) (by unfold Func.isWrapper; first | (rw [if_pos (by decide +kernel)]; kernel_rfl) | (rw [if_neg (by decide +kernel)]; exact ⟨rfl, rfl⟩))
    (fun os started H enc _ => lifted os started H enc)
end RowFourPuts
theorem fourPuts_holds : Rows.FourPutsSaid := RowFourPuts.over
end Go.Proofs.Ytniieckjooahfaa
