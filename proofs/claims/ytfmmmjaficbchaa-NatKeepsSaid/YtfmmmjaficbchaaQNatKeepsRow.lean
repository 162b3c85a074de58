/- The statement NatKeeps for every input: the walk, met in the row. No condition. -/
import Derived.Test.YtfmmmjaficbchaaRows
import Derived.Test.YtfmmmjaficbchaaQNatFlows2
import Derived.Test.YtfmmmjaficbchaaQNatKeeps1
namespace Go.Proofs.Ytfmmmjaficbchaa
open Go.RowKit Go.ChangeShapes Go.WideShapes Go.ChangeAt Go.Deep
namespace RowNatKeeps
theorem list0 (l : List Value) (h : l.length = 9) : ∃ c0 c1 c2 c3 c4 c5 c6 c7 c8, l = [c0, c1, c2, c3, c4, c5, c6, c7, c8] := by
  match l, h with
  | [c0, c1, c2, c3, c4, c5, c6, c7, c8], _ => exact ⟨c0, c1, c2, c3, c4, c5, c6, c7, c8, rfl⟩
theorem leafs0 : leafsOf Try.prog 5 32 0 = some [(3, 0), (4, 1), (24, 2), (24, 3), (4, 4), (24, 5), (24, 6), (3, 7), (3, 8)] := by kernel_rfl
theorem cells0 : Try.prog.cellsOf 32 = 9 := by kernel_rfl
theorem under0 : ∃ fs, Try.prog.underlying 32 = some (.struct fs) := ⟨_, Try.underlying32⟩
theorem list4 (l : List Value) (h : l.length = 3) : ∃ c0 c1 c2, l = [c0, c1, c2] := by
  match l, h with
  | [c0, c1, c2], _ => exact ⟨c0, c1, c2, rfl⟩
theorem leafs4 : leafsOf Try.prog 5 26 0 = some [(4, 0), (24, 1), (24, 2)] := by kernel_rfl
theorem cells4 : Try.prog.cellsOf 26 = 3 := by kernel_rfl
theorem under4 : ∃ fs, Try.prog.underlying 26 = some (.struct fs) := ⟨_, Try.underlying26⟩
set_option maxRecDepth 100000 in
theorem lifted (os : Os) (started : os.Started) (H : Type) (enc : TypeId × Value → H) :
    ReturnsInHanded {} Try.checked os 6 .any (Rows.natKeepsSpec.pre6 enc Try.prog Try.f6 Rows.natKeepsRow.domain false) (Rows.natKeepsSpec.post enc Try.prog Try.f6 false true false false) := by
  refine returnsInHanded_of_change (C := Try.checked) own started (by kernel_rfl) Try.func6
    (ChangeSpec.witness6 (enc := enc) (C := Try.checked) false ⟨#[], #[.agg #[.int .i64 0, .bool false, .int .u64 0, .int .u64 0, .bool false, .int .u64 0, .int .u64 0, .int .i64 0, .int .i64 0], .int .i64 0, .slice none 0 0, .int .i64 0, .agg #[.bool false, .int .u64 0, .int .u64 0], .int .i64 0], []⟩ 8 (by kernel_rfl) (by kernel_rfl) (by kernel_rfl) (by kernel_rfl)) ?_
  intro W base args ds gs before hval0 hW hcnd _
  have hval : ∀ (j : Nat) t v, Try.f6.params[j]? = some t → args[j]? = some v → Value.okWide Try.prog W .any base t v := hval0
  have hW' := hW
  obtain ⟨p, q, hA0, hV, rfl, hfz, hnd⟩ := hW
  have hA : DataW.TrodAll enc Try.prog W 0 (fun _ => true) true Try.f6.params.toList args.toList ds p := hA0
  rw [Try.params6] at hA hval
  obtain ⟨v0, vs0, d0, ds0, p0, q0, hargs, rfl, rfl, h0, r0⟩ := trodAll_cons hA
  obtain ⟨v1, vs1, d1, ds1, p1, q1, rfl, rfl, rfl, h1, r1⟩ := trodAll_cons r0
  obtain ⟨v2, vs2, d2, ds2, p2, q2, rfl, rfl, rfl, h2, r2⟩ := trodAll_cons r1
  obtain ⟨v3, vs3, d3, ds3, p3, q3, rfl, rfl, rfl, h3, r3⟩ := trodAll_cons r2
  obtain ⟨v4, vs4, d4, ds4, p4, q4, rfl, rfl, rfl, h4, r4⟩ := trodAll_cons r3
  obtain ⟨v5, vs5, d5, ds5, p5, q5, rfl, rfl, rfl, h5, r5⟩ := trodAll_cons r4
  obtain ⟨rfl, rfl, rfl⟩ := trodAll_nil r5
  obtain rfl : args = #[v0, v1, v2, v3, v4, v5] := by cases args; simp_all
  obtain ⟨rfl, rfl⟩ := trodVars_none hV
  have k0 := h0
  have lt0 : ∀ x ∈ p0, x.block < W.heap.size := by obtain ⟨m, hm⟩ := k0; exact DataW.trod_lt m _ _ _ hm
  have k1 := h1
  have lt1 : ∀ x ∈ p1, x.block < W.heap.size := by obtain ⟨m, hm⟩ := k1; exact DataW.trod_lt m _ _ _ hm
  have k2 := h2
  have lt2 : ∀ x ∈ p2, x.block < W.heap.size := by obtain ⟨m, hm⟩ := k2; exact DataW.trod_lt m _ _ _ hm
  have k3 := h3
  have lt3 : ∀ x ∈ p3, x.block < W.heap.size := by obtain ⟨m, hm⟩ := k3; exact DataW.trod_lt m _ _ _ hm
  have k4 := h4
  have lt4 : ∀ x ∈ p4, x.block < W.heap.size := by obtain ⟨m, hm⟩ := k4; exact DataW.trod_lt m _ _ _ hm
  have k5 := h5
  have lt5 : ∀ x ∈ p5, x.block < W.heap.size := by obtain ⟨m, hm⟩ := k5; exact DataW.trod_lt m _ _ _ hm
  obtain ⟨cs0, rfl, hcl0, hlf0⟩ := open_leafs Try.underlying32 leafs0 (hval 0 32 v0 rfl rfl) h0
  rw [cells0] at hcl0
  obtain ⟨c0_0, c0_1, c0_2, c0_3, c0_4, c0_5, c0_6, c0_7, c0_8, rfl⟩ := list0 cs0 hcl0
  obtain ⟨_, _, t0_0⟩ := hlf0 3 0 (by simp)
  obtain ⟨i0_0, e0_0, _, hw0_0⟩ := DataW.trod_int Try.underlying3 t0_0
  simp only [List.drop_succ_cons, List.drop_zero, List.take_succ_cons, List.take_zero, List.cons.injEq, and_true] at e0_0
  obtain ⟨_, _, t0_1⟩ := hlf0 4 1 (by simp)
  simp only [List.drop_succ_cons, List.drop_zero, List.take_succ_cons, List.take_zero] at t0_1
  obtain ⟨b0_1, e0_1⟩ := open_bool' t0_1
  obtain ⟨_, _, t0_2⟩ := hlf0 24 2 (by simp)
  obtain ⟨i0_2, e0_2, _, hw0_2⟩ := DataW.trod_int Try.underlying24 t0_2
  simp only [List.drop_succ_cons, List.drop_zero, List.take_succ_cons, List.take_zero, List.cons.injEq, and_true] at e0_2
  obtain ⟨_, _, t0_3⟩ := hlf0 24 3 (by simp)
  obtain ⟨i0_3, e0_3, _, hw0_3⟩ := DataW.trod_int Try.underlying24 t0_3
  simp only [List.drop_succ_cons, List.drop_zero, List.take_succ_cons, List.take_zero, List.cons.injEq, and_true] at e0_3
  obtain ⟨_, _, t0_4⟩ := hlf0 4 4 (by simp)
  simp only [List.drop_succ_cons, List.drop_zero, List.take_succ_cons, List.take_zero] at t0_4
  obtain ⟨b0_4, e0_4⟩ := open_bool' t0_4
  obtain ⟨_, _, t0_5⟩ := hlf0 24 5 (by simp)
  obtain ⟨i0_5, e0_5, _, hw0_5⟩ := DataW.trod_int Try.underlying24 t0_5
  simp only [List.drop_succ_cons, List.drop_zero, List.take_succ_cons, List.take_zero, List.cons.injEq, and_true] at e0_5
  obtain ⟨_, _, t0_6⟩ := hlf0 24 6 (by simp)
  obtain ⟨i0_6, e0_6, _, hw0_6⟩ := DataW.trod_int Try.underlying24 t0_6
  simp only [List.drop_succ_cons, List.drop_zero, List.take_succ_cons, List.take_zero, List.cons.injEq, and_true] at e0_6
  obtain ⟨_, _, t0_7⟩ := hlf0 3 7 (by simp)
  obtain ⟨i0_7, e0_7, _, hw0_7⟩ := DataW.trod_int Try.underlying3 t0_7
  simp only [List.drop_succ_cons, List.drop_zero, List.take_succ_cons, List.take_zero, List.cons.injEq, and_true] at e0_7
  obtain ⟨_, _, t0_8⟩ := hlf0 3 8 (by simp)
  obtain ⟨i0_8, e0_8, _, hw0_8⟩ := DataW.trod_int Try.underlying3 t0_8
  simp only [List.drop_succ_cons, List.drop_zero, List.take_succ_cons, List.take_zero, List.cons.injEq, and_true] at e0_8
  subst e0_0 e0_1 e0_2 e0_3 e0_4 e0_5 e0_6 e0_7 e0_8
  obtain ⟨i1, rfl, rfl, rfl, hw1⟩ := open_int Try.underlying3 (hval 1 3 v1 rfl rfl) h1
  obtain ⟨_, _, _, hs2⟩ := okWide_slice Try.underlying22 (hval 2 22 v2 rfl rfl)
  obtain ⟨f2, hf2⟩ := h2
  rw [show v2.cells.toList = [v2] by rw [hs2]; rfl] at hf2
  clear hs2
  obtain ⟨A2, n2, cp2, xs2, e2, hx2, hn2, hc2⟩ := open_bytes hf2
  subst e2
  obtain ⟨i3, rfl, rfl, rfl, hw3⟩ := open_int Try.underlying23 (hval 3 23 v3 rfl rfl) h3
  obtain ⟨cs4, rfl, hcl4, hlf4⟩ := open_leafs Try.underlying26 leafs4 (hval 4 26 v4 rfl rfl) h4
  rw [cells4] at hcl4
  obtain ⟨c4_0, c4_1, c4_2, rfl⟩ := list4 cs4 hcl4
  obtain ⟨_, _, t4_0⟩ := hlf4 4 0 (by simp)
  simp only [List.drop_succ_cons, List.drop_zero, List.take_succ_cons, List.take_zero] at t4_0
  obtain ⟨b4_0, e4_0⟩ := open_bool' t4_0
  obtain ⟨_, _, t4_1⟩ := hlf4 24 1 (by simp)
  obtain ⟨i4_1, e4_1, _, hw4_1⟩ := DataW.trod_int Try.underlying24 t4_1
  simp only [List.drop_succ_cons, List.drop_zero, List.take_succ_cons, List.take_zero, List.cons.injEq, and_true] at e4_1
  obtain ⟨_, _, t4_2⟩ := hlf4 24 2 (by simp)
  obtain ⟨i4_2, e4_2, _, hw4_2⟩ := DataW.trod_int Try.underlying24 t4_2
  simp only [List.drop_succ_cons, List.drop_zero, List.take_succ_cons, List.take_zero, List.cons.injEq, and_true] at e4_2
  subst e4_0 e4_1 e4_2
  obtain ⟨i5, rfl, rfl, rfl, hw5⟩ := open_int Try.underlying3 (hval 5 3 v5 rfl rfl) h5
  clear hA0 hval0
  refine (Nat15.keeps_walk i0_0 b0_1 i0_2 i0_3 b0_4 i0_5 i0_6 i0_7 i0_8 i1 A2 n2 cp2 xs2 i3 b4_0 i4_1 i4_2 i5 W hw0_0 hw0_2 hw0_3 hw0_5 hw0_6 hw0_7 hw0_8 hw1 hx2 hn2 hc2 hw3 hw4_1 hw4_2 hw5).mono fun e W' ⟨he, bel⟩ => ?_
  subst he
  exact ⟨_, rfl, _, _, _, [], _, [], hW', trodAll_mk1 (shut_bool Try.underlying4 _), (trodAll_cons_mk (Below.trod laidOut (by kernel_rfl) (of_decide_eq_true (by kernel_rfl)) k0 bel lt0) (trodAll_cons_mk (Below.trod laidOut (by kernel_rfl) (of_decide_eq_true (by kernel_rfl)) k1 bel lt1) (trodAll_cons_mk (Below.trod laidOut (by kernel_rfl) (of_decide_eq_true (by kernel_rfl)) k2 bel lt2) (trodAll_cons_mk (Below.trod laidOut (by kernel_rfl) (of_decide_eq_true (by kernel_rfl)) k3 bel lt3) (trodAll_cons_mk (Below.trod laidOut (by kernel_rfl) (of_decide_eq_true (by kernel_rfl)) k4 bel lt4) (trodAll_cons_mk (Below.trod laidOut (by kernel_rfl) (of_decide_eq_true (by kernel_rfl)) k5 bel lt5) trodAll_mk0)))))), rfl, bel.frame _, fun h => by cases h⟩
theorem over : Rows.natKeepsRow.holds Try.pinned (OpenSpec.ofChange Rows.natKeepsSpec) :=
  OpenClaim.holds_of_wide 6 Try.f6 rfl rfl rfl rfl rfl rfl rfl ⟨rfl, rfl, rfl, rfl, rfl⟩ rfl rfl rfl rfl rfl (by kernel_rfl) Try.func6 (by kernel_rfl)
    (of_decide_eq_true (by kernel_rfl)) (by unfold Func.isWrapper; first | (rw [if_pos (by decide +kernel)]; kernel_rfl) | (rw [if_neg (by decide +kernel)]; exact ⟨rfl, rfl⟩))
    (fun os started H enc _ => lifted os started H enc)
end RowNatKeeps
theorem natKeeps_holds : Rows.NatKeepsSaid := RowNatKeeps.over
end Go.Proofs.Ytfmmmjaficbchaa
