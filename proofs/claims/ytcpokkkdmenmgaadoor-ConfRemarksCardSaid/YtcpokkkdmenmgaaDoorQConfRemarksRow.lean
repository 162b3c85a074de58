/- The statement ConfRemarks for every input: the walk, met in the row. No condition. -/
import Derived.Test.YtcpokkkdmenmgaaDoorRows
import Derived.Test.YtcpokkkdmenmgaaDoorQConfRemarks2
import Derived.Test.YtcpokkkdmenmgaaDoorQConfRemarks22
import Derived.Test.YtcpokkkdmenmgaaDoorQConfRemarks13
import Derived.Test.YtcpokkkdmenmgaaDoorCards
import Derived.Test.YtcpokkkdmenmgaaDoorTie
import Derived.SevenTiedAt
namespace Go.Proofs.YtcpokkkdmenmgaaDoor
open Go.RowKit Go.ChangeShapes Go.WideShapes Go.ChangeAt Go.Deep
namespace RowConfRemarks
theorem list0 (l : List Value) (h : l.length = 11) : ∃ c0 c1 c2 c3 c4 c5 c6 c7 c8 c9 c10, l = [c0, c1, c2, c3, c4, c5, c6, c7, c8, c9, c10] := by
  match l, h with
  | [c0, c1, c2, c3, c4, c5, c6, c7, c8, c9, c10], _ => exact ⟨c0, c1, c2, c3, c4, c5, c6, c7, c8, c9, c10, rfl⟩
theorem leafs0 : leafsOf Tryd.prog 5 30 0 = some [(22, 0), (23, 1), (24, 2), (3, 3), (3, 4), (4, 5), (25, 6), (25, 7), (4, 8), (25, 9), (25, 10)] := by kernel_rfl
theorem cells0 : Tryd.prog.cellsOf 30 = 11 := by kernel_rfl
theorem under0 : ∃ fs, Tryd.prog.underlying 30 = some (.struct fs) := ⟨_, Tryd.underlying30⟩
set_option maxRecDepth 100000 in
theorem lifted (os : Os) (started : os.Started) (H : Type) (enc : TypeId × Value → H) :
    ReturnsInHanded {} Tryd.checked os 3 .any (fun w args => (Rows.confRemarksSpec.pre enc Tryd.prog Tryd.f3 Rows.confRemarksRow.domain false w args ∧ laidMetH Tryd.prog Rows.confRemarksRow.laid w) ∧ sizedMet enc Tryd.prog Tryd.f3 (OpenSpec.ofChange Rows.confRemarksSpec) false w args) (Rows.confRemarksSpec.post enc Tryd.prog Tryd.f3 false true false false) := by
  refine returns_laid (C := Tryd.checked) (X := fun w _ => laidMetH Tryd.prog Rows.confRemarksRow.laid w) (fun _ _ _ hh h => h.of_heap hh) own started (by kernel_rfl) Tryd.func3
    (ChangeSpec.witness_shaped (enc := enc) (C := Tryd.checked) (os := os) (X := fun w _ => laidMetH Tryd.prog Rows.confRemarksRow.laid w) false (World.laidAll Tryd.prog os Rows.confRemarksRow.laid) #[.agg #[.slice none 0 0, .slice none 0 0, .slice none 0 0, .int .i64 0, .int .i64 0, .bool false, .int .u64 0, .int .u64 0, .bool false, .int .u64 0, .int .u64 0], .string ByteArray.empty] 8 (World.laidAll_os _ _ _)
      (World.shaped_of_ZipB (by kernel_rfl) (by kernel_rfl)) (by kernel_rfl) (by kernel_rfl) (by kernel_rfl)
      (by rw [MakeChecks.laidMetH_plain _ _ _ (by kernel_rfl)]; exact laidMet_laidAll _ (by kernel_rfl) (by kernel_rfl))) ?_
  intro W base args ds gs before hval0 hW hcnd _ hsh
  have hval : ∀ (j : Nat) t v, Tryd.f3.params[j]? = some t → args[j]? = some v → Value.okWide Tryd.prog W .any base t v := hval0
  have hW' := hW
  obtain ⟨p, q, hA0, hV, rfl, hfz, hnd⟩ := hW
  have hA : DataW.TrodAll enc Tryd.prog W 0 (fun _ => true) true Tryd.f3.params.toList args.toList ds p := hA0
  rw [Tryd.params3] at hA hval
  obtain ⟨v0, vs0, d0, ds0, p0, q0, hargs, rfl, rfl, h0, r0⟩ := trodAll_cons hA
  obtain ⟨v1, vs1, d1, ds1, p1, q1, rfl, rfl, rfl, h1, r1⟩ := trodAll_cons r0
  obtain ⟨rfl, rfl, rfl⟩ := trodAll_nil r1
  obtain rfl : args = #[v0, v1] := by cases args; simp_all
  obtain ⟨rfl, rfl⟩ := trodVars_none hV
  have k0 := h0
  have lt0 : ∀ x ∈ p0, x.block < W.heap.size := by obtain ⟨m, hm⟩ := k0; exact DataW.trod_lt m _ _ _ hm
  have k1 := h1
  have lt1 : ∀ x ∈ p1, x.block < W.heap.size := by obtain ⟨m, hm⟩ := k1; exact DataW.trod_lt m _ _ _ hm
  obtain ⟨cs0, rfl, hcl0, hlf0⟩ := open_leafs Tryd.underlying30 leafs0 (hval 0 30 v0 rfl rfl) h0
  rw [cells0] at hcl0
  obtain ⟨c0_0, c0_1, c0_2, c0_3, c0_4, c0_5, c0_6, c0_7, c0_8, c0_9, c0_10, rfl⟩ := list0 cs0 hcl0
  obtain ⟨_, _, t0_0⟩ := hlf0 22 0 (by simp)
  simp only [List.drop_succ_cons, List.drop_zero, List.take_succ_cons, List.take_zero] at t0_0
  obtain ⟨A0_0, n0_0, cp0_0, es0_0, e0_0, hx0_0, hn0_0, hc0_0⟩ := Conf18.open_nds t0_0
  obtain ⟨_, _, t0_1⟩ := hlf0 23 1 (by simp)
  simp only [List.drop_succ_cons, List.drop_zero, List.take_succ_cons, List.take_zero] at t0_1
  obtain ⟨A0_1, n0_1, cp0_1, es0_1, e0_1, hx0_1, hn0_1, hc0_1⟩ := Conf18.open_vps t0_1
  obtain ⟨_, _, t0_2⟩ := hlf0 24 2 (by simp)
  simp only [List.drop_succ_cons, List.drop_zero, List.take_succ_cons, List.take_zero] at t0_2
  obtain ⟨A0_2, n0_2, cp0_2, es0_2, e0_2, hx0_2, hn0_2, hc0_2⟩ := Conf18.open_vws t0_2
  obtain ⟨_, _, t0_3⟩ := hlf0 3 3 (by simp)
  obtain ⟨i0_3, e0_3, _, hw0_3⟩ := DataW.trod_int Tryd.underlying3 t0_3
  simp only [List.drop_succ_cons, List.drop_zero, List.take_succ_cons, List.take_zero, List.cons.injEq, and_true] at e0_3
  obtain ⟨_, _, t0_4⟩ := hlf0 3 4 (by simp)
  obtain ⟨i0_4, e0_4, _, hw0_4⟩ := DataW.trod_int Tryd.underlying3 t0_4
  simp only [List.drop_succ_cons, List.drop_zero, List.take_succ_cons, List.take_zero, List.cons.injEq, and_true] at e0_4
  obtain ⟨_, _, t0_5⟩ := hlf0 4 5 (by simp)
  simp only [List.drop_succ_cons, List.drop_zero, List.take_succ_cons, List.take_zero] at t0_5
  obtain ⟨b0_5, e0_5⟩ := open_bool' t0_5
  obtain ⟨_, _, t0_6⟩ := hlf0 25 6 (by simp)
  obtain ⟨i0_6, e0_6, _, hw0_6⟩ := DataW.trod_int Tryd.underlying25 t0_6
  simp only [List.drop_succ_cons, List.drop_zero, List.take_succ_cons, List.take_zero, List.cons.injEq, and_true] at e0_6
  obtain ⟨_, _, t0_7⟩ := hlf0 25 7 (by simp)
  obtain ⟨i0_7, e0_7, _, hw0_7⟩ := DataW.trod_int Tryd.underlying25 t0_7
  simp only [List.drop_succ_cons, List.drop_zero, List.take_succ_cons, List.take_zero, List.cons.injEq, and_true] at e0_7
  obtain ⟨_, _, t0_8⟩ := hlf0 4 8 (by simp)
  simp only [List.drop_succ_cons, List.drop_zero, List.take_succ_cons, List.take_zero] at t0_8
  obtain ⟨b0_8, e0_8⟩ := open_bool' t0_8
  obtain ⟨_, _, t0_9⟩ := hlf0 25 9 (by simp)
  obtain ⟨i0_9, e0_9, _, hw0_9⟩ := DataW.trod_int Tryd.underlying25 t0_9
  simp only [List.drop_succ_cons, List.drop_zero, List.take_succ_cons, List.take_zero, List.cons.injEq, and_true] at e0_9
  obtain ⟨_, _, t0_10⟩ := hlf0 25 10 (by simp)
  obtain ⟨i0_10, e0_10, _, hw0_10⟩ := DataW.trod_int Tryd.underlying25 t0_10
  simp only [List.drop_succ_cons, List.drop_zero, List.take_succ_cons, List.take_zero, List.cons.injEq, and_true] at e0_10
  subst e0_0 e0_1 e0_2 e0_3 e0_4 e0_5 e0_6 e0_7 e0_8 e0_9 e0_10
  obtain ⟨s1, rfl, rfl, rfl, hs1⟩ := Go.ChangeMaps.open_string Tryd.underlying9 (hval 1 9 v1 rfl rfl) h1
  clear hA0 hval0
  refine (Conf18.remarks_row A0_0 n0_0 cp0_0 es0_0 A0_1 n0_1 cp0_1 es0_1 A0_2 n0_2 cp0_2 es0_2 i0_3 i0_4 b0_5 i0_6 i0_7 b0_8 i0_9 i0_10 s1 W hx0_0 hn0_0 hc0_0 hx0_1 hn0_1 hc0_1 hx0_2 hn0_2 hc0_2 hw0_3 hw0_4 hw0_6 hw0_7 hw0_9 hw0_10 hs1 (maxAt_of hsh)).mono fun e W' ⟨he, bel⟩ => ?_
  subst he
  exact ⟨_, rfl, _, _, _, [], _, [], hW', trodAll_mk1 (shut_bool Tryd.underlying4 _), (trodAll_cons_mk (Below.trod laidOut (by kernel_rfl) (of_decide_eq_true (by kernel_rfl)) k0 bel lt0) (trodAll_cons_mk (Below.trod laidOut (by kernel_rfl) (of_decide_eq_true (by kernel_rfl)) k1 bel lt1) trodAll_mk0)), rfl, bel.frame _, fun h => by cases h⟩
theorem over : Rows.confRemarksRow.holds Tryd.pinned (OpenSpec.ofChange Rows.confRemarksSpec) :=
  OpenClaim.holds_of_wide 3 Tryd.f3 rfl rfl rfl rfl rfl rfl rfl ⟨rfl, rfl, rfl, rfl, rfl⟩ rfl rfl rfl rfl rfl (by kernel_rfl) Tryd.func3 (by kernel_rfl)
    (of_decide_eq_true (by kernel_rfl)) (by unfold Func.isWrapper; first | (rw [if_pos (by decide +kernel)]; kernel_rfl) | (rw [if_neg (by decide +kernel)]; exact ⟨rfl, rfl⟩))
    (fun os started H enc _ => lifted os started H enc)

theorem card : Rows.ConfRemarksCardSaid :=
  Claim7.holds_tied_plain_at .later [] [.data, .pinned] true _ false over (fun _ h => by cases h) (by kernel_rfl) (fun _ h => by cases h) confRemarks_row_tie rfl ⟨rfl, rfl⟩ (by kernel_rfl) rfl
    (fun f fn hf hfn => by
      obtain rfl : f = 3 := Option.some.inj ((show Tryd.prog.funcNamed "distributary/distributarylaw18.ConfRemarks" = some 3 by kernel_rfl).symm.trans hf) |>.symm
      obtain rfl : fn = Tryd.f3 := (Option.some.inj (Tryd.func3.symm.trans hfn)).symm
      exact ⟨by kernel_rfl, fun j t ht => by
        rw [Tryd.params3] at ht
        have hm : t ∈ [30, 9] := by simpa using Array.mem_of_getElem? ht
        have hall : ([30, 9].all fun u => !Tryd.prog.wantsStandIn u) = true := by kernel_rfl
        exact (show Tryd.prog.wantsStandIn t = false by simpa using List.all_eq_true.1 hall t hm)⟩)
    (by kernel_rfl)
end RowConfRemarks
theorem confRemarks_holds : Rows.ConfRemarksCardSaid := RowConfRemarks.card
end Go.Proofs.YtcpokkkdmenmgaaDoor
