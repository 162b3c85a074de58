/- The statement FourQuotes for every input: the walk, met in the row. No condition. -/
import Derived.Test.YtniieckjooahfaaRows
import Derived.Test.YtniieckjooahfaaOpen
import Derived.Test.YtniieckjooahfaaFourQuotesWalk
namespace Go.Proofs.Ytniieckjooahfaa
open Go.RowKit Go.ChangeShapes Go.WideShapes Go.ChangeAt Go.Deep
namespace RowFourQuotes
theorem list1 (l : List Value) (h : l.length = 3) : ∃ c0 c1 c2, l = [c0, c1, c2] := by
  match l, h with
  | [c0, c1, c2], _ => exact ⟨c0, c1, c2, rfl⟩
theorem leafs1 : leafsOf Try.prog 5 24 0 = some [(4, 0), (22, 1), (22, 2)] := by kernel_rfl
theorem cells1 : Try.prog.cellsOf 24 = 3 := by kernel_rfl
theorem under1 : ∃ fs, Try.prog.underlying 24 = some (.struct fs) := ⟨_, Try.underlying24⟩
theorem list2 (l : List Value) (h : l.length = 3) : ∃ c0 c1 c2, l = [c0, c1, c2] := by
  match l, h with
  | [c0, c1, c2], _ => exact ⟨c0, c1, c2, rfl⟩
theorem leafs2 : leafsOf Try.prog 5 24 0 = some [(4, 0), (22, 1), (22, 2)] := by kernel_rfl
theorem cells2 : Try.prog.cellsOf 24 = 3 := by kernel_rfl
theorem under2 : ∃ fs, Try.prog.underlying 24 = some (.struct fs) := ⟨_, Try.underlying24⟩
set_option maxRecDepth 100000 in
theorem lifted (os : Os) (started : os.Started) (H : Type) (enc : TypeId × Value → H) :
    ReturnsInHanded {} Try.checked os 13 .any (Rows.fourQuotesSpec.pre6 enc Try.prog Try.f13 Rows.fourQuotesRow.domain false) (Rows.fourQuotesSpec.post enc Try.prog Try.f13 false true false false) := by
  refine returnsInHanded_of_change (C := Try.checked) own started (by kernel_rfl) Try.func13
    (ChangeSpec.witness6 (enc := enc) (C := Try.checked) false ⟨#[], #[.slice none 0 0, .agg #[.bool false, .int .u64 0, .int .u64 0], .agg #[.bool false, .int .u64 0, .int .u64 0], .int .i64 0, .int .i64 0], []⟩ 8 (by kernel_rfl) (by kernel_rfl) (by kernel_rfl) (by kernel_rfl)) ?_
  intro W base args ds gs before hval0 hW hcnd _
  have hval : ∀ (j : Nat) t v, Try.f13.params[j]? = some t → args[j]? = some v → Value.okWide Try.prog W .any base t v := hval0
  have hW' := hW
  obtain ⟨p, q, hA0, hV, rfl, hfz, hnd⟩ := hW
  have hA : DataW.TrodAll enc Try.prog W 0 (fun _ => true) true Try.f13.params.toList args.toList ds p := hA0
  rw [Try.params13] at hA hval
  obtain ⟨v0, vs0, d0, ds0, p0, q0, hargs, rfl, rfl, h0, r0⟩ := trodAll_cons hA
  obtain ⟨v1, vs1, d1, ds1, p1, q1, rfl, rfl, rfl, h1, r1⟩ := trodAll_cons r0
  obtain ⟨v2, vs2, d2, ds2, p2, q2, rfl, rfl, rfl, h2, r2⟩ := trodAll_cons r1
  obtain ⟨v3, vs3, d3, ds3, p3, q3, rfl, rfl, rfl, h3, r3⟩ := trodAll_cons r2
  obtain ⟨v4, vs4, d4, ds4, p4, q4, rfl, rfl, rfl, h4, r4⟩ := trodAll_cons r3
  obtain ⟨rfl, rfl, rfl⟩ := trodAll_nil r4
  obtain rfl : args = #[v0, v1, v2, v3, v4] := by cases args; simp_all
  obtain ⟨rfl, rfl⟩ := trodVars_none hV
  have k0 := h0
  have lt0 : ∀ x ∈ p0, x.block < W.heap.size := by obtain ⟨m, hm⟩ := k0; exact DataW.trod_lt m _ _ _ hm
  have k1 := h1
  have lt1 : ∀ x ∈ p1, x.block < W.heap.size := by obtain ⟨m, hm⟩ := k1; exact DataW.trod_lt m _ _ _ hm
  have k2 := h2
  have lt2 : ∀ x ∈ p2, x.block < W.heap.size := by obtain ⟨m, hm⟩ := k2; exact DataW.trod_lt m _ _ _ hm
  have k3 := h3
  have lt3 : ∀ x ∈ p3, x.block < W.heap.size := by obtain ⟨m, hm⟩ := k3; exact DataW.trod_lt m _ _ _ hm
  have k4 := h4
  have lt4 : ∀ x ∈ p4, x.block < W.heap.size := by obtain ⟨m, hm⟩ := k4; exact DataW.trod_lt m _ _ _ hm
  obtain ⟨_, _, _, hs0⟩ := okWide_slice Try.underlying35 (hval 0 35 v0 rfl rfl)
  obtain ⟨f0, hf0⟩ := h0
  rw [show v0.cells.toList = [v0] by rw [hs0]; rfl] at hf0
  clear hs0
  obtain ⟨A0, n0, cp0, xs0, e0, hx0, hn0, hc0⟩ := open_bytes hf0
  subst e0
  obtain ⟨cs1, rfl, hcl1, hlf1⟩ := open_leafs Try.underlying24 leafs1 (hval 1 24 v1 rfl rfl) h1
  rw [cells1] at hcl1
  obtain ⟨c1_0, c1_1, c1_2, rfl⟩ := list1 cs1 hcl1
  obtain ⟨_, _, t1_0⟩ := hlf1 4 0 (by simp)
  simp only [List.drop_succ_cons, List.drop_zero, List.take_succ_cons, List.take_zero] at t1_0
  obtain ⟨b1_0, e1_0⟩ := open_bool' t1_0
  obtain ⟨_, _, t1_1⟩ := hlf1 22 1 (by simp)
  obtain ⟨i1_1, e1_1, _, hw1_1⟩ := DataW.trod_int Try.underlying22 t1_1
  simp only [List.drop_succ_cons, List.drop_zero, List.take_succ_cons, List.take_zero, List.cons.injEq, and_true] at e1_1
  obtain ⟨_, _, t1_2⟩ := hlf1 22 2 (by simp)
  obtain ⟨i1_2, e1_2, _, hw1_2⟩ := DataW.trod_int Try.underlying22 t1_2
  simp only [List.drop_succ_cons, List.drop_zero, List.take_succ_cons, List.take_zero, List.cons.injEq, and_true] at e1_2
  subst e1_0 e1_1 e1_2
  obtain ⟨cs2, rfl, hcl2, hlf2⟩ := open_leafs Try.underlying24 leafs2 (hval 2 24 v2 rfl rfl) h2
  rw [cells2] at hcl2
  obtain ⟨c2_0, c2_1, c2_2, rfl⟩ := list2 cs2 hcl2
  obtain ⟨_, _, t2_0⟩ := hlf2 4 0 (by simp)
  simp only [List.drop_succ_cons, List.drop_zero, List.take_succ_cons, List.take_zero] at t2_0
  obtain ⟨b2_0, e2_0⟩ := open_bool' t2_0
  obtain ⟨_, _, t2_1⟩ := hlf2 22 1 (by simp)
  obtain ⟨i2_1, e2_1, _, hw2_1⟩ := DataW.trod_int Try.underlying22 t2_1
  simp only [List.drop_succ_cons, List.drop_zero, List.take_succ_cons, List.take_zero, List.cons.injEq, and_true] at e2_1
  obtain ⟨_, _, t2_2⟩ := hlf2 22 2 (by simp)
  obtain ⟨i2_2, e2_2, _, hw2_2⟩ := DataW.trod_int Try.underlying22 t2_2
  simp only [List.drop_succ_cons, List.drop_zero, List.take_succ_cons, List.take_zero, List.cons.injEq, and_true] at e2_2
  subst e2_0 e2_1 e2_2
  obtain ⟨i3, rfl, rfl, rfl, hw3⟩ := open_int Try.underlying3 (hval 3 3 v3 rfl rfl) h3
  obtain ⟨i4, rfl, rfl, rfl, hw4⟩ := open_int Try.underlying3 (hval 4 3 v4 rfl rfl) h4
  clear hA0 hval0
  refine (Four.quotes_walk A0 n0 cp0 xs0 b1_0 i1_1 i1_2 b2_0 i2_1 i2_2 i3 i4 W hx0 hn0 hc0 hw1_1 hw1_2 hw2_1 hw2_2 hw3 hw4).mono fun e W' ⟨he, bel⟩ => ?_
  subst he
  exact ⟨_, rfl, _, _, _, [], _, [], hW', trodAll_mk1 (shut_bool Try.underlying4 _), (trodAll_cons_mk (Below.trod laidOut (by kernel_rfl) (of_decide_eq_true (by kernel_rfl)) k0 bel lt0) (trodAll_cons_mk (Below.trod laidOut (by kernel_rfl) (of_decide_eq_true (by kernel_rfl)) k1 bel lt1) (trodAll_cons_mk (Below.trod laidOut (by kernel_rfl) (of_decide_eq_true (by kernel_rfl)) k2 bel lt2) (trodAll_cons_mk (Below.trod laidOut (by kernel_rfl) (of_decide_eq_true (by kernel_rfl)) k3 bel lt3) (trodAll_cons_mk (Below.trod laidOut (by kernel_rfl) (of_decide_eq_true (by kernel_rfl)) k4 bel lt4) trodAll_mk0))))), rfl, bel.frame _, fun h => by cases h⟩
theorem over : Rows.fourQuotesRow.holds Try.pinned (OpenSpec.ofChange Rows.fourQuotesSpec) :=
  OpenClaim.holds_of_wide 13 Try.f13 rfl rfl rfl rfl rfl rfl rfl ⟨rfl, rfl, rfl, rfl, rfl⟩ rfl rfl rfl rfl rfl (by kernel_rfl) Try.func13 (by kernel_rfl)
    (of_decide_eq_true (by kernel_rfl)) (by unfold Func.isWrapper; first | (rw [if_pos (by decide +kernel)]; kernel_rfl) | (rw [if_neg (by decide +kernel)]; exact ⟨rfl, rfl⟩))
    (fun os started H enc _ => lifted os started H enc)
end RowFourQuotes
theorem fourQuotes_holds : Rows.FourQuotesSaid := RowFourQuotes.over
end Go.Proofs.Ytniieckjooahfaa
