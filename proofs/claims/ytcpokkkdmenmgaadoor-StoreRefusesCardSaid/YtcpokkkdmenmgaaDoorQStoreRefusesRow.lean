/- The statement StoreRefuses for every input: the walk, met in the row. No condition. -/
import Derived.Test.YtcpokkkdmenmgaaDoorRows
import Derived.Test.YtcpokkkdmenmgaaDoorQStoreNobody2
import Derived.Test.YtcpokkkdmenmgaaDoorQStoreRefuses4
import Derived.Test.YtcpokkkdmenmgaaDoorQStoreNobody11
import Derived.Test.YtcpokkkdmenmgaaDoorCards
import Derived.Test.YtcpokkkdmenmgaaDoorTie
import Derived.SevenTiedAt
namespace Go.Proofs.YtcpokkkdmenmgaaDoor
open Go.RowKit Go.ChangeShapes Go.WideShapes Go.ChangeAt Go.Deep
namespace RowStoreRefuses
set_option maxRecDepth 100000 in
theorem lifted (os : Os) (started : os.Started) (H : Type) (enc : TypeId × Value → H) :
    ReturnsInHanded {} Tryd.checked os 5 .any (fun w args => (Rows.storeRefusesSpec.pre enc Tryd.prog Tryd.f5 Rows.storeRefusesRow.domain false w args ∧ laidMetH Tryd.prog Rows.storeRefusesRow.laid w) ∧ sizedMet enc Tryd.prog Tryd.f5 (OpenSpec.ofChange Rows.storeRefusesSpec) false w args) (Rows.storeRefusesSpec.post enc Tryd.prog Tryd.f5 false true false false) := by
  refine returns_laid (C := Tryd.checked) (X := fun w _ => laidMetH Tryd.prog Rows.storeRefusesRow.laid w) (fun _ _ _ hh h => h.of_heap hh) own started (by kernel_rfl) Tryd.func5
    (ChangeSpec.witness_shaped (enc := enc) (C := Tryd.checked) (os := os) (X := fun w _ => laidMetH Tryd.prog Rows.storeRefusesRow.laid w) false (World.laidAll Tryd.prog os Rows.storeRefusesRow.laid) #[.slice none 0 0, .slice none 0 0] 8 (World.laidAll_os _ _ _)
      (World.shaped_of_ZipB (by kernel_rfl) (by kernel_rfl)) (by kernel_rfl) (by kernel_rfl) (by kernel_rfl)
      (by rw [MakeChecks.laidMetH_plain _ _ _ (by kernel_rfl)]; exact laidMet_laidAll _ (by kernel_rfl) (by kernel_rfl))) ?_
  intro W base args ds gs before hval0 hW hcnd _ hsh
  have hval : ∀ (j : Nat) t v, Tryd.f5.params[j]? = some t → args[j]? = some v → Value.okWide Tryd.prog W .any base t v := hval0
  have hW' := hW
  obtain ⟨p, q, hA0, hV, rfl, hfz, hnd⟩ := hW
  have hA : DataW.TrodAll enc Tryd.prog W 0 (fun _ => true) true Tryd.f5.params.toList args.toList ds p := hA0
  rw [Tryd.params5] at hA hval
  obtain ⟨v0, vs0, d0, ds0, p0, q0, hargs, rfl, rfl, h0, r0⟩ := trodAll_cons hA
  obtain ⟨v1, vs1, d1, ds1, p1, q1, rfl, rfl, rfl, h1, r1⟩ := trodAll_cons r0
  obtain ⟨rfl, rfl, rfl⟩ := trodAll_nil r1
  obtain rfl : args = #[v0, v1] := by cases args; simp_all
  obtain ⟨rfl, rfl⟩ := trodVars_none hV
  have k0 := h0
  have lt0 : ∀ x ∈ p0, x.block < W.heap.size := by obtain ⟨m, hm⟩ := k0; exact DataW.trod_lt m _ _ _ hm
  have k1 := h1
  have lt1 : ∀ x ∈ p1, x.block < W.heap.size := by obtain ⟨m, hm⟩ := k1; exact DataW.trod_lt m _ _ _ hm
  obtain ⟨_, _, _, hs0⟩ := okWide_slice Tryd.underlying59 (hval 0 59 v0 rfl rfl)
  obtain ⟨f0, hf0⟩ := h0
  rw [show v0.cells.toList = [v0] by rw [hs0]; rfl] at hf0
  clear hs0
  obtain ⟨A0, n0, cp0, es0, e0, hx0, hn0, hc0⟩ := Store20.open_wos hf0
  subst e0
  obtain ⟨_, _, _, hs1⟩ := okWide_slice Tryd.underlying59 (hval 1 59 v1 rfl rfl)
  obtain ⟨f1, hf1⟩ := h1
  rw [show v1.cells.toList = [v1] by rw [hs1]; rfl] at hf1
  clear hs1
  obtain ⟨A1, n1, cp1, es1, e1, hx1, hn1, hc1⟩ := Store20.open_wos hf1
  subst e1
  clear hA0 hval0
  refine (Store20.refuses_row A0 n0 cp0 es0 A1 n1 cp1 es1 W hx0 hn0 hc0 hx1 hn1 hc1 (maxAt_of hsh)).mono fun e W' ⟨he, bel⟩ => ?_
  subst he
  exact ⟨_, rfl, _, _, _, [], _, [], hW', trodAll_mk1 (shut_bool Tryd.underlying4 _), (trodAll_cons_mk (Below.trod laidOut (by kernel_rfl) (of_decide_eq_true (by kernel_rfl)) k0 bel lt0) (trodAll_cons_mk (Below.trod laidOut (by kernel_rfl) (of_decide_eq_true (by kernel_rfl)) k1 bel lt1) trodAll_mk0)), rfl, bel.frame _, fun h => by cases h⟩
theorem over : Rows.storeRefusesRow.holds Tryd.pinned (OpenSpec.ofChange Rows.storeRefusesSpec) :=
  OpenClaim.holds_of_wide 5 Tryd.f5 rfl rfl rfl rfl rfl rfl rfl ⟨rfl, rfl, rfl, rfl, rfl⟩ rfl rfl rfl rfl rfl (by kernel_rfl) Tryd.func5 (by kernel_rfl)
    (of_decide_eq_true (by kernel_rfl)) (by unfold Func.isWrapper; first | (rw [if_pos (by decide +kernel)]; kernel_rfl) | (rw [if_neg (by decide +kernel)]; exact ⟨rfl, rfl⟩))
    (fun os started H enc _ => lifted os started H enc)

theorem card : Rows.StoreRefusesCardSaid :=
  Claim7.holds_tied_plain_at .later [] [.data, .pinned] true _ false over (fun _ h => by cases h) (by kernel_rfl) (fun _ h => by cases h) storeRefuses_row_tie rfl ⟨rfl, rfl⟩ (by kernel_rfl) rfl
    (fun f fn hf hfn => by
      obtain rfl : f = 5 := Option.some.inj ((show Tryd.prog.funcNamed "distributary/distributarylaw20.StoreRefuses" = some 5 by kernel_rfl).symm.trans hf) |>.symm
      obtain rfl : fn = Tryd.f5 := (Option.some.inj (Tryd.func5.symm.trans hfn)).symm
      exact ⟨by kernel_rfl, fun j t ht => by
        rw [Tryd.params5] at ht
        have hm : t ∈ [59, 59] := by simpa using Array.mem_of_getElem? ht
        have hall : ([59, 59].all fun u => !Tryd.prog.wantsStandIn u) = true := by kernel_rfl
        exact (show Tryd.prog.wantsStandIn t = false by simpa using List.all_eq_true.1 hall t hm)⟩)
    (by kernel_rfl)
end RowStoreRefuses
theorem storeRefuses_holds : Rows.StoreRefusesCardSaid := RowStoreRefuses.card
end Go.Proofs.YtcpokkkdmenmgaaDoor
