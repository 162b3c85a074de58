/- The statement LimitPlays for every input: the walk, met in the row. No condition. -/
import Derived.Test.YtbcicbiphgeghaaDoorRows
import Derived.Test.YtbcicbiphgeghaaDoorQLimitFull2
import Derived.Test.YtbcicbiphgeghaaDoorQLimitPlays1
import Derived.Test.YtbcicbiphgeghaaDoorQLimitFull14
import Derived.Test.YtbcicbiphgeghaaDoorCards
import Derived.Test.YtbcicbiphgeghaaDoorTie
import Derived.SevenTiedAt
namespace Go.Proofs.YtbcicbiphgeghaaDoor
open Go.RowKit Go.ChangeShapes Go.WideShapes Go.ChangeAt Go.Deep
namespace RowLimitPlays
theorem list2 (l : List Value) (h : l.length = 3) : ∃ c0 c1 c2, l = [c0, c1, c2] := by
  match l, h with
  | [c0, c1, c2], _ => exact ⟨c0, c1, c2, rfl⟩
theorem leafs2 : leafsOf Tryd.prog 5 26 0 = some [(4, 0), (24, 1), (24, 2)] := by kernel_rfl
theorem cells2 : Tryd.prog.cellsOf 26 = 3 := by kernel_rfl
theorem under2 : ∃ fs, Tryd.prog.underlying 26 = some (.struct fs) := ⟨_, Tryd.underlying26⟩
set_option maxRecDepth 100000 in
theorem lifted (os : Os) (started : os.Started) (H : Type) (enc : TypeId × Value → H) :
    ReturnsInHanded {} Tryd.checked os 5 .any (fun w args => (Rows.limitPlaysSpec.pre enc Tryd.prog Tryd.f5 Rows.limitPlaysRow.domain false w args ∧ laidMetH Tryd.prog Rows.limitPlaysRow.laid w) ∧ sizedMet enc Tryd.prog Tryd.f5 (OpenSpec.ofChange Rows.limitPlaysSpec) false w args) (Rows.limitPlaysSpec.post enc Tryd.prog Tryd.f5 false true false false) := by
  refine returns_laid (C := Tryd.checked) (X := fun w _ => laidMetH Tryd.prog Rows.limitPlaysRow.laid w) (fun _ _ _ hh h => h.of_heap hh) own started (by kernel_rfl) Tryd.func5
    (ChangeSpec.witness_shaped (enc := enc) (C := Tryd.checked) (os := os) (X := fun w _ => laidMetH Tryd.prog Rows.limitPlaysRow.laid w) false (World.laidAll Tryd.prog os Rows.limitPlaysRow.laid) #[.slice none 0 0, .slice none 0 0, .agg #[.bool false, .int .u64 0, .int .u64 0], .int .i64 0] 8 (World.laidAll_os _ _ _)
      (World.shaped_of_ZipB (by kernel_rfl) (by kernel_rfl)) (by kernel_rfl) (by kernel_rfl) (by kernel_rfl)
      (by rw [MakeChecks.laidMetH_plain _ _ _ (by kernel_rfl)]; exact laidMet_laidAll _ (by kernel_rfl) (by kernel_rfl))) ?_
  intro W base args ds gs before hval0 hW hcnd _ hsh
  have hval : ∀ (j : Nat) t v, Tryd.f5.params[j]? = some t → args[j]? = some v → Value.okWide Tryd.prog W .any base t v := hval0
  have hW' := hW
  obtain ⟨p, q, hA0, hV, rfl, hfz, hnd⟩ := hW
  have hA : DataW.TrodAll enc Tryd.prog W 0 (fun _ => true) true Tryd.f5.params.toList args.toList ds p := hA0
  rw [Tryd.params5] at hA hval
  obtain ⟨v0, vs0, d0, ds0, p0, q0, hargs, rfl, rfl, h0, r0⟩ := trodAll_cons hA
  obtain ⟨v1, vs1, d1, ds1, p1, q1, rfl, rfl, rfl, h1, r1⟩ := trodAll_cons r0
  obtain ⟨v2, vs2, d2, ds2, p2, q2, rfl, rfl, rfl, h2, r2⟩ := trodAll_cons r1
  obtain ⟨v3, vs3, d3, ds3, p3, q3, rfl, rfl, rfl, h3, r3⟩ := trodAll_cons r2
  obtain ⟨rfl, rfl, rfl⟩ := trodAll_nil r3
  obtain rfl : args = #[v0, v1, v2, v3] := by cases args; simp_all
  obtain ⟨rfl, rfl⟩ := trodVars_none hV
  have k0 := h0
  have lt0 : ∀ x ∈ p0, x.block < W.heap.size := by obtain ⟨m, hm⟩ := k0; exact DataW.trod_lt m _ _ _ hm
  have k1 := h1
  have lt1 : ∀ x ∈ p1, x.block < W.heap.size := by obtain ⟨m, hm⟩ := k1; exact DataW.trod_lt m _ _ _ hm
  have k2 := h2
  have lt2 : ∀ x ∈ p2, x.block < W.heap.size := by obtain ⟨m, hm⟩ := k2; exact DataW.trod_lt m _ _ _ hm
  have k3 := h3
  have lt3 : ∀ x ∈ p3, x.block < W.heap.size := by obtain ⟨m, hm⟩ := k3; exact DataW.trod_lt m _ _ _ hm
  obtain ⟨_, _, _, hs0⟩ := okWide_slice Tryd.underlying23 (hval 0 23 v0 rfl rfl)
  obtain ⟨f0, hf0⟩ := h0
  rw [show v0.cells.toList = [v0] by rw [hs0]; rfl] at hf0
  clear hs0
  obtain ⟨A0, n0, cp0, es0, e0, hx0, hn0, hc0⟩ := Addr05.open_rules hf0
  subst e0
  obtain ⟨_, _, _, hs1⟩ := okWide_slice Tryd.underlying51 (hval 1 51 v1 rfl rfl)
  obtain ⟨f1, hf1⟩ := h1
  rw [show v1.cells.toList = [v1] by rw [hs1]; rfl] at hf1
  clear hs1
  obtain ⟨A1, n1, cp1, es1, e1, hx1, hn1, hc1⟩ := Addr05.open_lops hf1
  subst e1
  obtain ⟨cs2, rfl, hcl2, hlf2⟩ := open_leafs Tryd.underlying26 leafs2 (hval 2 26 v2 rfl rfl) h2
  rw [cells2] at hcl2
  obtain ⟨c2_0, c2_1, c2_2, rfl⟩ := list2 cs2 hcl2
  obtain ⟨_, _, t2_0⟩ := hlf2 4 0 (by simp)
  simp only [List.drop_succ_cons, List.drop_zero, List.take_succ_cons, List.take_zero] at t2_0
  obtain ⟨b2_0, e2_0⟩ := open_bool' t2_0
  obtain ⟨_, _, t2_1⟩ := hlf2 24 1 (by simp)
  obtain ⟨i2_1, e2_1, _, hw2_1⟩ := DataW.trod_int Tryd.underlying24 t2_1
  simp only [List.drop_succ_cons, List.drop_zero, List.take_succ_cons, List.take_zero, List.cons.injEq, and_true] at e2_1
  obtain ⟨_, _, t2_2⟩ := hlf2 24 2 (by simp)
  obtain ⟨i2_2, e2_2, _, hw2_2⟩ := DataW.trod_int Tryd.underlying24 t2_2
  simp only [List.drop_succ_cons, List.drop_zero, List.take_succ_cons, List.take_zero, List.cons.injEq, and_true] at e2_2
  subst e2_0 e2_1 e2_2
  obtain ⟨i3, rfl, rfl, rfl, hw3⟩ := open_int Tryd.underlying2 (hval 3 2 v3 rfl rfl) h3
  clear hA0 hval0
  refine (Addr05.lplays_row A0 n0 cp0 es0 A1 n1 cp1 es1 b2_0 i2_1 i2_2 i3 W hx0 hn0 hc0 hx1 hn1 hc1 hw2_1 hw2_2 hw3 (maxAt_of hsh)).mono fun e W' ⟨he, bel⟩ => ?_
  subst he
  exact ⟨_, rfl, _, _, _, [], _, [], hW', trodAll_mk1 (shut_bool Tryd.underlying4 _), (trodAll_cons_mk (Below.trod laidOut (by kernel_rfl) (of_decide_eq_true (by kernel_rfl)) k0 bel lt0) (trodAll_cons_mk (Below.trod laidOut (by kernel_rfl) (of_decide_eq_true (by kernel_rfl)) k1 bel lt1) (trodAll_cons_mk (Below.trod laidOut (by kernel_rfl) (of_decide_eq_true (by kernel_rfl)) k2 bel lt2) (trodAll_cons_mk (Below.trod laidOut (by kernel_rfl) (of_decide_eq_true (by kernel_rfl)) k3 bel lt3) trodAll_mk0)))), rfl, bel.frame _, fun h => by cases h⟩
theorem over : Rows.limitPlaysRow.holds Tryd.pinned (OpenSpec.ofChange Rows.limitPlaysSpec) :=
  OpenClaim.holds_of_wide 5 Tryd.f5 rfl rfl rfl rfl rfl rfl rfl ⟨rfl, rfl, rfl, rfl, rfl⟩ rfl rfl rfl rfl rfl (by kernel_rfl) Tryd.func5 (by kernel_rfl)
    (of_decide_eq_true (by kernel_rfl)) (by unfold Func.isWrapper; first | (rw [if_pos (by decide +kernel)]; kernel_rfl) | (rw [if_neg (by decide +kernel)]; exact ⟨rfl, rfl⟩))
    (fun os started H enc _ => lifted os started H enc)

theorem card : Rows.LimitPlaysCardSaid :=
  Claim7.holds_tied_plain_at .later [] [.data, .pinned] true _ false over (fun _ h => by cases h) (by kernel_rfl) (fun _ h => by cases h) limitPlays_row_tie rfl ⟨rfl, rfl⟩ (by kernel_rfl) rfl
    (fun f fn hf hfn => by
      obtain rfl : f = 5 := Option.some.inj ((show Tryd.prog.funcNamed "distributary/distributarylaw45.LimitPlays" = some 5 by kernel_rfl).symm.trans hf) |>.symm
      obtain rfl : fn = Tryd.f5 := (Option.some.inj (Tryd.func5.symm.trans hfn)).symm
      exact ⟨by kernel_rfl, fun j t ht => by
        rw [Tryd.params5] at ht
        have hm : t ∈ [23, 51, 26, 2] := by simpa using Array.mem_of_getElem? ht
        have hall : ([23, 51, 26, 2].all fun u => !Tryd.prog.wantsStandIn u) = true := by kernel_rfl
        exact (show Tryd.prog.wantsStandIn t = false by simpa using List.all_eq_true.1 hall t hm)⟩)
    (by kernel_rfl)
end RowLimitPlays
theorem limitPlays_holds : Rows.LimitPlaysCardSaid := RowLimitPlays.card
end Go.Proofs.YtbcicbiphgeghaaDoor
