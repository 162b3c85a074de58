/- The statement IcmpQuotes for every input: the walk, met in the row. No condition. -/
import Derived.Test.YtniieckjooahfaaRows
import Derived.Test.YtniieckjooahfaaOpen
import Derived.Test.YtniieckjooahfaaIcmpQuotesWalk
namespace Go.Proofs.Ytniieckjooahfaa
open Go.RowKit Go.ChangeShapes Go.WideShapes Go.ChangeAt Go.Deep
namespace RowIcmpQuotes
theorem list1 (l : List Value) (h : l.length = 4) : ∃ c0 c1 c2 c3, l = [c0, c1, c2, c3] := by
  match l, h with
  | [c0, c1, c2, c3], _ => exact ⟨c0, c1, c2, c3, rfl⟩
theorem leafs1 : leafsOf Try.prog 5 39 0 = some [(3, 0), (3, 1), (37, 2), (35, 3)] := by kernel_rfl
theorem cells1 : Try.prog.cellsOf 39 = 4 := by kernel_rfl
theorem under1 : ∃ fs, Try.prog.underlying 39 = some (.struct fs) := ⟨_, Try.underlying39⟩
set_option maxRecDepth 100000 in
theorem lifted (os : Os) (started : os.Started) (H : Type) (enc : TypeId × Value → H) :
    ReturnsInHanded {} Try.checked os 12 .any (Rows.icmpQuotesSpec.pre6 enc Try.prog Try.f12 Rows.icmpQuotesRow.domain false) (Rows.icmpQuotesSpec.post enc Try.prog Try.f12 false true false false) := by
  refine returnsInHanded_of_change (C := Try.checked) own started (by kernel_rfl) Try.func12
    (ChangeSpec.witness6 (enc := enc) (C := Try.checked) false ⟨#[], #[.bool false, .agg #[.int .i64 0, .int .i64 0, .int .u32 0, .slice none 0 0]], []⟩ 8 (by kernel_rfl) (by kernel_rfl) (by kernel_rfl) (by kernel_rfl)) ?_
  intro W base args ds gs before hval0 hW hcnd _
  have hval : ∀ (j : Nat) t v, Try.f12.params[j]? = some t → args[j]? = some v → Value.okWide Try.prog W .any base t v := hval0
  have hW' := hW
  obtain ⟨p, q, hA0, hV, rfl, hfz, hnd⟩ := hW
  have hA : DataW.TrodAll enc Try.prog W 0 (fun _ => true) true Try.f12.params.toList args.toList ds p := hA0
  rw [Try.params12] at hA hval
  obtain ⟨v0, vs0, d0, ds0, p0, q0, hargs, rfl, rfl, h0, r0⟩ := trodAll_cons hA
  obtain ⟨v1, vs1, d1, ds1, p1, q1, rfl, rfl, rfl, h1, r1⟩ := trodAll_cons r0
  obtain ⟨rfl, rfl, rfl⟩ := trodAll_nil r1
  obtain rfl : args = #[v0, v1] := by cases args; simp_all
  obtain ⟨rfl, rfl⟩ := trodVars_none hV
  have k0 := h0
  have lt0 : ∀ x ∈ p0, x.block < W.heap.size := by obtain ⟨m, hm⟩ := k0; exact DataW.trod_lt m _ _ _ hm
  have k1 := h1
  have lt1 : ∀ x ∈ p1, x.block < W.heap.size := by obtain ⟨m, hm⟩ := k1; exact DataW.trod_lt m _ _ _ hm
  obtain ⟨b0, rfl, rfl, rfl⟩ := open_bool Try.underlying4 (hval 0 4 v0 rfl rfl) h0
  obtain ⟨cs1, rfl, hcl1, hlf1⟩ := open_leafs Try.underlying39 leafs1 (hval 1 39 v1 rfl rfl) h1
  rw [cells1] at hcl1
  obtain ⟨c1_0, c1_1, c1_2, c1_3, rfl⟩ := list1 cs1 hcl1
  obtain ⟨_, _, t1_0⟩ := hlf1 3 0 (by simp)
  obtain ⟨i1_0, e1_0, _, hw1_0⟩ := DataW.trod_int Try.underlying3 t1_0
  simp only [List.drop_succ_cons, List.drop_zero, List.take_succ_cons, List.take_zero, List.cons.injEq, and_true] at e1_0
  obtain ⟨_, _, t1_1⟩ := hlf1 3 1 (by simp)
  obtain ⟨i1_1, e1_1, _, hw1_1⟩ := DataW.trod_int Try.underlying3 t1_1
  simp only [List.drop_succ_cons, List.drop_zero, List.take_succ_cons, List.take_zero, List.cons.injEq, and_true] at e1_1
  obtain ⟨_, _, t1_2⟩ := hlf1 37 2 (by simp)
  obtain ⟨i1_2, e1_2, _, hw1_2⟩ := DataW.trod_int Try.underlying37 t1_2
  simp only [List.drop_succ_cons, List.drop_zero, List.take_succ_cons, List.take_zero, List.cons.injEq, and_true] at e1_2
  obtain ⟨_, _, t1_3⟩ := hlf1 35 3 (by simp)
  simp only [List.drop_succ_cons, List.drop_zero, List.take_succ_cons, List.take_zero] at t1_3
  obtain ⟨A1_3, n1_3, cp1_3, xs1_3, e1_3, hx1_3, hn1_3, hc1_3⟩ := open_bytes t1_3
  subst e1_0 e1_1 e1_2 e1_3
  clear hA0 hval0
  refine (Icmp.quotes_walk b0 i1_0 i1_1 i1_2 A1_3 n1_3 cp1_3 xs1_3 W hw1_0 hw1_1 hw1_2 hx1_3 hn1_3 hc1_3).mono fun e W' ⟨he, bel⟩ => ?_
  subst he
  exact ⟨_, rfl, _, _, _, [], _, [], hW', trodAll_mk1 (shut_bool Try.underlying4 _), (trodAll_cons_mk (Below.trod laidOut (by kernel_rfl) (of_decide_eq_true (by kernel_rfl)) k0 bel lt0) (trodAll_cons_mk (Below.trod laidOut (by kernel_rfl) (of_decide_eq_true (by kernel_rfl)) k1 bel lt1) trodAll_mk0)), rfl, bel.frame _, fun h => by cases h⟩
theorem over : Rows.icmpQuotesRow.holds Try.pinned (OpenSpec.ofChange Rows.icmpQuotesSpec) :=
  OpenClaim.holds_of_wide 12 Try.f12 rfl rfl rfl rfl rfl rfl rfl ⟨rfl, rfl, rfl, rfl, rfl⟩ rfl rfl rfl rfl rfl (by kernel_rfl) Try.func12 (by kernel_rfl)
    (of_decide_eq_true (by kernel_rfl)) (by unfold Func.isWrapper; first | (rw [if_pos (by decide +kernel)]; kernel_rfl) | (rw [if_neg (by decide +kernel)]; exact ⟨rfl, rfl⟩))
    (fun os started H enc _ => lifted os started H enc)
end RowIcmpQuotes
theorem icmpQuotes_holds : Rows.IcmpQuotesSaid := RowIcmpQuotes.over
end Go.Proofs.Ytniieckjooahfaa
