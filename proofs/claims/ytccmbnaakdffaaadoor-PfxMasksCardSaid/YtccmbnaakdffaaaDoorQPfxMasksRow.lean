/- The statement PfxMasks for every input: the walk, met in the row. No condition. -/
import Derived.Test.YtccmbnaakdffaaaDoorRows
import Derived.Test.YtccmbnaakdffaaaDoorQAddrParses2
import Derived.Test.YtccmbnaakdffaaaDoorQPfxMasks1
import Derived.Test.YtccmbnaakdffaaaDoorQAddrParses9
import Derived.Test.YtccmbnaakdffaaaDoorCards
import Derived.Test.YtccmbnaakdffaaaDoorTie
import Derived.SevenTiedAt
namespace Go.Proofs.YtccmbnaakdffaaaDoor
open Go.RowKit Go.ChangeShapes Go.WideShapes Go.ChangeAt Go.Deep
namespace RowPfxMasks
theorem list0 (l : List Value) (h : l.length = 3) : ∃ c0 c1 c2, l = [c0, c1, c2] := by
  match l, h with
  | [c0, c1, c2], _ => exact ⟨c0, c1, c2, rfl⟩
theorem leafs0 : leafsOf Tryd.prog 5 24 0 = some [(4, 0), (22, 1), (22, 2)] := by kernel_rfl
theorem cells0 : Tryd.prog.cellsOf 24 = 3 := by kernel_rfl
theorem under0 : ∃ fs, Tryd.prog.underlying 24 = some (.struct fs) := ⟨_, Tryd.underlying24⟩
theorem list2 (l : List Value) (h : l.length = 4) : ∃ c0 c1 c2 c3, l = [c0, c1, c2, c3] := by
  match l, h with
  | [c0, c1, c2, c3], _ => exact ⟨c0, c1, c2, c3, rfl⟩
theorem leafs2 : leafsOf Tryd.prog 5 45 0 = some [(4, 0), (22, 1), (22, 2), (3, 3)] := by kernel_rfl
theorem cells2 : Tryd.prog.cellsOf 45 = 4 := by kernel_rfl
theorem under2 : ∃ fs, Tryd.prog.underlying 45 = some (.struct fs) := ⟨_, Tryd.underlying45⟩
set_option maxRecDepth 100000 in
theorem lifted (os : Os) (started : os.Started) (H : Type) (enc : TypeId × Value → H) :
    ReturnsInHanded {} Tryd.checked os 8 .any (fun w args => (Rows.pfxMasksSpec.pre enc Tryd.prog Tryd.f8 Rows.pfxMasksRow.domain false w args ∧ laidMetH Tryd.prog Rows.pfxMasksRow.laid w) ∧ sizedMet enc Tryd.prog Tryd.f8 (OpenSpec.ofChange Rows.pfxMasksSpec) false w args) (Rows.pfxMasksSpec.post enc Tryd.prog Tryd.f8 false true false false) := by
  refine returns_laid (C := Tryd.checked) (X := fun w _ => laidMetH Tryd.prog Rows.pfxMasksRow.laid w) (fun _ _ _ hh h => h.of_heap hh) own started (by kernel_rfl) Tryd.func8
    (ChangeSpec.witness_shaped (enc := enc) (C := Tryd.checked) (os := os) (X := fun w _ => laidMetH Tryd.prog Rows.pfxMasksRow.laid w) false (World.laidAll Tryd.prog os Rows.pfxMasksRow.laid) #[.agg #[.bool false, .int .u64 0, .int .u64 0], .int .i64 0, .agg #[.bool false, .int .u64 0, .int .u64 0, .int .i64 0]] 8 (World.laidAll_os _ _ _)
      (World.shaped_of_ZipB (by kernel_rfl) (by kernel_rfl)) (by kernel_rfl) (by kernel_rfl) (by kernel_rfl)
      (by rw [MakeChecks.laidMetH_plain _ _ _ (by kernel_rfl)]; exact laidMet_laidAll _ (by kernel_rfl) (by kernel_rfl))) ?_
  intro W base args ds gs before hval0 hW hcnd _ hsh
  have hval : ∀ (j : Nat) t v, Tryd.f8.params[j]? = some t → args[j]? = some v → Value.okWide Tryd.prog W .any base t v := hval0
  have hW' := hW
  obtain ⟨p, q, hA0, hV, rfl, hfz, hnd⟩ := hW
  have hA : DataW.TrodAll enc Tryd.prog W 0 (fun _ => true) true Tryd.f8.params.toList args.toList ds p := hA0
  rw [Tryd.params8] at hA hval
  obtain ⟨v0, vs0, d0, ds0, p0, q0, hargs, rfl, rfl, h0, r0⟩ := trodAll_cons hA
  obtain ⟨v1, vs1, d1, ds1, p1, q1, rfl, rfl, rfl, h1, r1⟩ := trodAll_cons r0
  obtain ⟨v2, vs2, d2, ds2, p2, q2, rfl, rfl, rfl, h2, r2⟩ := trodAll_cons r1
  obtain ⟨rfl, rfl, rfl⟩ := trodAll_nil r2
  obtain rfl : args = #[v0, v1, v2] := by cases args; simp_all
  obtain ⟨rfl, rfl⟩ := trodVars_none hV
  have k0 := h0
  have lt0 : ∀ x ∈ p0, x.block < W.heap.size := by obtain ⟨m, hm⟩ := k0; exact DataW.trod_lt m _ _ _ hm
  have k1 := h1
  have lt1 : ∀ x ∈ p1, x.block < W.heap.size := by obtain ⟨m, hm⟩ := k1; exact DataW.trod_lt m _ _ _ hm
  have k2 := h2
  have lt2 : ∀ x ∈ p2, x.block < W.heap.size := by obtain ⟨m, hm⟩ := k2; exact DataW.trod_lt m _ _ _ hm
  obtain ⟨cs0, rfl, hcl0, hlf0⟩ := open_leafs Tryd.underlying24 leafs0 (hval 0 24 v0 rfl rfl) h0
  rw [cells0] at hcl0
  obtain ⟨c0_0, c0_1, c0_2, rfl⟩ := list0 cs0 hcl0
  obtain ⟨_, _, t0_0⟩ := hlf0 4 0 (by simp)
  simp only [List.drop_succ_cons, List.drop_zero, List.take_succ_cons, List.take_zero] at t0_0
  obtain ⟨b0_0, e0_0⟩ := open_bool' t0_0
  obtain ⟨_, _, t0_1⟩ := hlf0 22 1 (by simp)
  obtain ⟨i0_1, e0_1, _, hw0_1⟩ := DataW.trod_int Tryd.underlying22 t0_1
  simp only [List.drop_succ_cons, List.drop_zero, List.take_succ_cons, List.take_zero, List.cons.injEq, and_true] at e0_1
  obtain ⟨_, _, t0_2⟩ := hlf0 22 2 (by simp)
  obtain ⟨i0_2, e0_2, _, hw0_2⟩ := DataW.trod_int Tryd.underlying22 t0_2
  simp only [List.drop_succ_cons, List.drop_zero, List.take_succ_cons, List.take_zero, List.cons.injEq, and_true] at e0_2
  subst e0_0 e0_1 e0_2
  obtain ⟨i1, rfl, rfl, rfl, hw1⟩ := open_int Tryd.underlying3 (hval 1 3 v1 rfl rfl) h1
  obtain ⟨cs2, rfl, hcl2, hlf2⟩ := open_leafs Tryd.underlying45 leafs2 (hval 2 45 v2 rfl rfl) h2
  rw [cells2] at hcl2
  obtain ⟨c2_0, c2_1, c2_2, c2_3, rfl⟩ := list2 cs2 hcl2
  obtain ⟨_, _, t2_0⟩ := hlf2 4 0 (by simp)
  simp only [List.drop_succ_cons, List.drop_zero, List.take_succ_cons, List.take_zero] at t2_0
  obtain ⟨b2_0, e2_0⟩ := open_bool' t2_0
  obtain ⟨_, _, t2_1⟩ := hlf2 22 1 (by simp)
  obtain ⟨i2_1, e2_1, _, hw2_1⟩ := DataW.trod_int Tryd.underlying22 t2_1
  simp only [List.drop_succ_cons, List.drop_zero, List.take_succ_cons, List.take_zero, List.cons.injEq, and_true] at e2_1
  obtain ⟨_, _, t2_2⟩ := hlf2 22 2 (by simp)
  obtain ⟨i2_2, e2_2, _, hw2_2⟩ := DataW.trod_int Tryd.underlying22 t2_2
  simp only [List.drop_succ_cons, List.drop_zero, List.take_succ_cons, List.take_zero, List.cons.injEq, and_true] at e2_2
  obtain ⟨_, _, t2_3⟩ := hlf2 3 3 (by simp)
  obtain ⟨i2_3, e2_3, _, hw2_3⟩ := DataW.trod_int Tryd.underlying3 t2_3
  simp only [List.drop_succ_cons, List.drop_zero, List.take_succ_cons, List.take_zero, List.cons.injEq, and_true] at e2_3
  subst e2_0 e2_1 e2_2 e2_3
  clear hA0 hval0
  refine (Addr05.pmasks_row b0_0 i0_1 i0_2 i1 b2_0 i2_1 i2_2 i2_3 W hw0_1 hw0_2 hw1 hw2_1 hw2_2 hw2_3 (maxAt_of hsh)).mono fun e W' ⟨he, bel⟩ => ?_
  subst he
  exact ⟨_, rfl, _, _, _, [], _, [], hW', trodAll_mk1 (shut_bool Tryd.underlying4 _), (trodAll_cons_mk (Below.trod laidOut (by kernel_rfl) (of_decide_eq_true (by kernel_rfl)) k0 bel lt0) (trodAll_cons_mk (Below.trod laidOut (by kernel_rfl) (of_decide_eq_true (by kernel_rfl)) k1 bel lt1) (trodAll_cons_mk (Below.trod laidOut (by kernel_rfl) (of_decide_eq_true (by kernel_rfl)) k2 bel lt2) trodAll_mk0))), rfl, bel.frame _, fun h => by cases h⟩
theorem over : Rows.pfxMasksRow.holds Tryd.pinned (OpenSpec.ofChange Rows.pfxMasksSpec) :=
  OpenClaim.holds_of_wide 8 Tryd.f8 rfl rfl rfl rfl rfl rfl rfl ⟨rfl, rfl, rfl, rfl, rfl⟩ rfl rfl rfl rfl rfl (by kernel_rfl) Tryd.func8 (by kernel_rfl)
    (of_decide_eq_true (by kernel_rfl)) (by unfold Func.isWrapper; first | (rw [if_pos (by decide +kernel)]; kernel_rfl) | (rw [if_neg (by decide +kernel)]; exact ⟨rfl, rfl⟩))
    (fun os started H enc _ => lifted os started H enc)

theorem card : Rows.PfxMasksCardSaid :=
  Claim7.holds_tied_plain_at .later [] [.data, .pinned] true _ false over (fun _ h => by cases h) (by kernel_rfl) (fun _ h => by cases h) pfxMasks_row_tie rfl ⟨rfl, rfl⟩ (by kernel_rfl) rfl
    (fun f fn hf hfn => by
      obtain rfl : f = 8 := Option.some.inj ((show Tryd.prog.funcNamed "distributary/distributarylaw06.PfxMasks" = some 8 by kernel_rfl).symm.trans hf) |>.symm
      obtain rfl : fn = Tryd.f8 := (Option.some.inj (Tryd.func8.symm.trans hfn)).symm
      exact ⟨by kernel_rfl, fun j t ht => by
        rw [Tryd.params8] at ht
        have hm : t ∈ [24, 3, 45] := by simpa using Array.mem_of_getElem? ht
        have hall : ([24, 3, 45].all fun u => !Tryd.prog.wantsStandIn u) = true := by kernel_rfl
        exact (show Tryd.prog.wantsStandIn t = false by simpa using List.all_eq_true.1 hall t hm)⟩)
    (by kernel_rfl)
end RowPfxMasks
theorem pfxMasks_holds : Rows.PfxMasksCardSaid := RowPfxMasks.card
end Go.Proofs.YtccmbnaakdffaaaDoor
