/- SnapNobody: the walk, met in the row. No condition. -/
import Derived.Test.YtdneeablghlemaaGreatDoorRows
import Derived.Test.YtdneeablghlemaaGreatDoorQSnapNobody2
import Derived.Test.YtdneeablghlemaaGreatDoorQSnapNobody7
import Derived.Test.YtdneeablghlemaaGreatDoorQSnapNobody8
import Derived.Test.YtdneeablghlemaaGreatDoorQSnapNobody4
import Derived.Test.YtdneeablghlemaaGreatDoorCards
import Derived.Test.YtdneeablghlemaaGreatDoorTie
import Derived.SevenTiedAt
namespace Go.Proofs.YtdneeablghlemaaGreatDoor
open Go.RowKit Go.ChangeShapes Go.WideShapes Go.ChangeAt Go.Deep
namespace RowSnapNobody
theorem list0 (l : List Value) (h : l.length = 10) : ∃ c0 c1 c2 c3 c4 c5 c6 c7 c8 c9, l = [c0, c1, c2, c3, c4, c5, c6, c7, c8, c9] := by
  match l, h with
  | [c0, c1, c2, c3, c4, c5, c6, c7, c8, c9], _ => exact ⟨c0, c1, c2, c3, c4, c5, c6, c7, c8, c9, rfl⟩
theorem leafs0 : leafsOf Tryz.prog 5 28 0 = some [(3, 0), (22, 1), (2, 2), (2, 3), (3, 4), (3, 5), (2, 6), (2, 7), (2, 8), (2, 9)] := by kernel_rfl
theorem cells0 : Tryz.prog.cellsOf 28 = 10 := by kernel_rfl
theorem under0 : ∃ fs, Tryz.prog.underlying 28 = some (.struct fs) := ⟨_, Tryz.underlying28⟩
set_option maxRecDepth 100000 in
theorem lifted (os : Os) (started : os.Started) (H : Type) (enc : TypeId × Value → H) :
    ReturnsInHanded {} Tryz.checked os 3 .any (fun w args => (Rows.snapNobodySpec.pre enc Tryz.prog Tryz.f3 Rows.snapNobodyRow.domain false w args ∧ laidMetH Tryz.prog Rows.snapNobodyRow.laid w) ∧ sizedMet enc Tryz.prog Tryz.f3 (OpenSpec.ofChange Rows.snapNobodySpec) false w args) (Rows.snapNobodySpec.post enc Tryz.prog Tryz.f3 false true false false) := by
  refine returns_laid (C := Tryz.checked) (X := fun w _ => laidMetH Tryz.prog Rows.snapNobodyRow.laid w) (fun _ _ _ hh h => h.of_heap hh) own started (by kernel_rfl) Tryz.func3
    (ChangeSpec.witness_shaped (enc := enc) (C := Tryz.checked) (os := os) (X := fun w _ => laidMetH Tryz.prog Rows.snapNobodyRow.laid w) false (World.laidAll Tryz.prog os Rows.snapNobodyRow.laid) #[.agg #[.int .i64 0, .int .u64 0, .int .i64 0, .int .i64 0, .int .i64 0, .int .i64 0, .int .i64 0, .int .i64 0, .int .i64 0, .int .i64 0], .int .i64 0] 8 (World.laidAll_os _ _ _)
      (World.shaped_of_ZipB (by kernel_rfl) (by kernel_rfl)) (by kernel_rfl) (by kernel_rfl) (by kernel_rfl)
      (by rw [MakeChecks.laidMetH_plain _ _ _ (by kernel_rfl)]; exact laidMet_laidAll _ (by kernel_rfl) (by kernel_rfl))) ?_
  intro W base args ds gs before hval0 hW hcnd _ hsh
  have hval : ∀ (j : Nat) t v, Tryz.f3.params[j]? = some t → args[j]? = some v → Value.okWide Tryz.prog W .any base t v := hval0
  have hW' := hW
  obtain ⟨p, q, hA0, hV, rfl, hfz, hnd⟩ := hW
  have hA : DataW.TrodAll enc Tryz.prog W 0 (fun _ => true) true Tryz.f3.params.toList args.toList ds p := hA0
  rw [Tryz.params3] at hA hval
  obtain ⟨v0, vs0, d0, ds0, p0, q0, hargs, rfl, rfl, h0, r0⟩ := trodAll_cons hA
  obtain ⟨v1, vs1, d1, ds1, p1, q1, rfl, rfl, rfl, h1, r1⟩ := trodAll_cons r0
  obtain ⟨rfl, rfl, rfl⟩ := trodAll_nil r1
  obtain rfl : args = #[v0, v1] := by cases args; simp_all
  obtain ⟨rfl, rfl⟩ := trodVars_none hV
  have k0 := h0
  have lt0 : ∀ x ∈ p0, x.block < W.heap.size := by obtain ⟨m, hm⟩ := k0; exact DataW.trod_lt m _ _ _ hm
  have k1 := h1
  have lt1 : ∀ x ∈ p1, x.block < W.heap.size := by obtain ⟨m, hm⟩ := k1; exact DataW.trod_lt m _ _ _ hm
  obtain ⟨cs0, rfl, hcl0, hlf0⟩ := open_leafs Tryz.underlying28 leafs0 (hval 0 28 v0 rfl rfl) h0
  rw [cells0] at hcl0
  obtain ⟨c0_0, c0_1, c0_2, c0_3, c0_4, c0_5, c0_6, c0_7, c0_8, c0_9, rfl⟩ := list0 cs0 hcl0
  obtain ⟨_, _, t0_0⟩ := hlf0 3 0 (by simp)
  obtain ⟨i0_0, e0_0, _, hw0_0⟩ := DataW.trod_int Tryz.underlying3 t0_0
  simp only [List.drop_zero, List.take_succ_cons, List.take_zero, List.cons.injEq, and_true] at e0_0
  obtain ⟨_, _, t0_1⟩ := hlf0 22 1 (by simp)
  obtain ⟨i0_1, e0_1, _, hw0_1⟩ := DataW.trod_int Tryz.underlying22 t0_1
  simp only [List.drop_succ_cons, List.drop_zero, List.take_succ_cons, List.take_zero, List.cons.injEq, and_true] at e0_1
  obtain ⟨_, _, t0_2⟩ := hlf0 2 2 (by simp)
  obtain ⟨i0_2, e0_2, _, hw0_2⟩ := DataW.trod_int Tryz.underlying2 t0_2
  simp only [List.drop_succ_cons, List.drop_zero, List.take_succ_cons, List.take_zero, List.cons.injEq, and_true] at e0_2
  obtain ⟨_, _, t0_3⟩ := hlf0 2 3 (by simp)
  obtain ⟨i0_3, e0_3, _, hw0_3⟩ := DataW.trod_int Tryz.underlying2 t0_3
  simp only [List.drop_succ_cons, List.drop_zero, List.take_succ_cons, List.take_zero, List.cons.injEq, and_true] at e0_3
  obtain ⟨_, _, t0_4⟩ := hlf0 3 4 (by simp)
  obtain ⟨i0_4, e0_4, _, hw0_4⟩ := DataW.trod_int Tryz.underlying3 t0_4
  simp only [List.drop_succ_cons, List.drop_zero, List.take_succ_cons, List.take_zero, List.cons.injEq, and_true] at e0_4
  obtain ⟨_, _, t0_5⟩ := hlf0 3 5 (by simp)
  obtain ⟨i0_5, e0_5, _, hw0_5⟩ := DataW.trod_int Tryz.underlying3 t0_5
  simp only [List.drop_succ_cons, List.drop_zero, List.take_succ_cons, List.take_zero, List.cons.injEq, and_true] at e0_5
  obtain ⟨_, _, t0_6⟩ := hlf0 2 6 (by simp)
  obtain ⟨i0_6, e0_6, _, hw0_6⟩ := DataW.trod_int Tryz.underlying2 t0_6
  simp only [List.drop_succ_cons, List.drop_zero, List.take_succ_cons, List.take_zero, List.cons.injEq, and_true] at e0_6
  obtain ⟨_, _, t0_7⟩ := hlf0 2 7 (by simp)
  obtain ⟨i0_7, e0_7, _, hw0_7⟩ := DataW.trod_int Tryz.underlying2 t0_7
  simp only [List.drop_succ_cons, List.drop_zero, List.take_succ_cons, List.take_zero, List.cons.injEq, and_true] at e0_7
  obtain ⟨_, _, t0_8⟩ := hlf0 2 8 (by simp)
  obtain ⟨i0_8, e0_8, _, hw0_8⟩ := DataW.trod_int Tryz.underlying2 t0_8
  simp only [List.drop_succ_cons, List.drop_zero, List.take_succ_cons, List.take_zero, List.cons.injEq, and_true] at e0_8
  obtain ⟨_, _, t0_9⟩ := hlf0 2 9 (by simp)
  obtain ⟨i0_9, e0_9, _, hw0_9⟩ := DataW.trod_int Tryz.underlying2 t0_9
  simp only [List.drop_succ_cons, List.drop_zero, List.take_succ_cons, List.take_zero, List.cons.injEq, and_true] at e0_9
  subst e0_0 e0_1 e0_2 e0_3 e0_4 e0_5 e0_6 e0_7 e0_8 e0_9
  obtain ⟨i1, rfl, rfl, rfl, hw1⟩ := open_int Tryz.underlying3 (hval 1 3 v1 rfl rfl) h1
  clear hA0 hval0
  refine (Mach33.nobody_row i0_0 i0_1 i0_2 i0_3 i0_4 i0_5 i0_6 i0_7 i0_8 i0_9 i1 W hw0_0 hw0_1 hw0_2 hw0_3 hw0_4 hw0_5 hw0_6 hw0_7 hw0_8 hw0_9 hw1).mono fun e W' ⟨he, bel⟩ => ?_
  subst he
  exact ⟨_, rfl, _, _, _, [], _, [], hW', trodAll_mk1 (shut_bool Tryz.underlying4 _), (trodAll_cons_mk (Below.trod laidOut (by kernel_rfl) (of_decide_eq_true (by kernel_rfl)) k0 bel lt0) (trodAll_cons_mk (Below.trod laidOut (by kernel_rfl) (of_decide_eq_true (by kernel_rfl)) k1 bel lt1) trodAll_mk0)), rfl, bel.frame _, fun h => by cases h⟩
theorem over : Rows.snapNobodyRow.holds Tryz.pinned (OpenSpec.ofChange Rows.snapNobodySpec) :=
  OpenClaim.holds_of_wide 3 Tryz.f3 rfl rfl rfl rfl rfl rfl rfl ⟨rfl, rfl, rfl, rfl, rfl⟩ rfl rfl rfl rfl rfl (by as_aux_lemma => kernel_rfl) Tryz.func3 closed
    (of_decide_eq_true (by as_aux_lemma => kernel_rfl)) (by unfold Func.isWrapper; first | (rw [if_pos (by decide +kernel)]; kernel_rfl) | (rw [if_neg (by decide +kernel)]; exact ⟨rfl, rfl⟩))
    (fun os started H enc _ => lifted os started H enc)
end RowSnapNobody
end Go.Proofs.YtdneeablghlemaaGreatDoor
