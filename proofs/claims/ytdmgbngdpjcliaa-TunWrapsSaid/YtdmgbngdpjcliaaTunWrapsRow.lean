/- The statement TunWraps for every input: the walk, met in the row. No condition. -/
import Derived.Test.YtdmgbngdpjcliaaRows
import Derived.Test.YtdmgbngdpjcliaaOpen
import Derived.Test.YtdmgbngdpjcliaaTunWrapsWalk
namespace Go.Proofs.Ytdmgbngdpjcliaa
open Go.RowKit Go.ChangeShapes Go.WideShapes Go.ChangeAt Go.Deep
namespace RowTunWraps
theorem list0 (l : List Value) (h : l.length = 3) : ∃ c0 c1 c2, l = [c0, c1, c2] := by
  match l, h with
  | [c0, c1, c2], _ => exact ⟨c0, c1, c2, rfl⟩
theorem leafs0 : leafsOf Try.prog 5 26 0 = some [(4, 0), (24, 1), (24, 2)] := by kernel_rfl
theorem cells0 : Try.prog.cellsOf 26 = 3 := by kernel_rfl
theorem under0 : ∃ fs, Try.prog.underlying 26 = some (.struct fs) := ⟨_, Try.underlying26⟩
theorem list1 (l : List Value) (h : l.length = 3) : ∃ c0 c1 c2, l = [c0, c1, c2] := by
  match l, h with
  | [c0, c1, c2], _ => exact ⟨c0, c1, c2, rfl⟩
theorem leafs1 : leafsOf Try.prog 5 26 0 = some [(4, 0), (24, 1), (24, 2)] := by kernel_rfl
theorem cells1 : Try.prog.cellsOf 26 = 3 := by kernel_rfl
theorem under1 : ∃ fs, Try.prog.underlying 26 = some (.struct fs) := ⟨_, Try.underlying26⟩
set_option maxRecDepth 100000 in
theorem lifted (os : Os) (started : os.Started) (H : Type) (enc : TypeId × Value → H) :
    ReturnsInHanded {} Try.checked os 4 .any (Rows.tunWrapsSpec.pre6 enc Try.prog Try.f4 Rows.tunWrapsRow.domain false) (Rows.tunWrapsSpec.post enc Try.prog Try.f4 false true false false) := by
  refine returnsInHanded_of_change (C := Try.checked) own started (by kernel_rfl) Try.func4
    (ChangeSpec.witness6 (enc := enc) (C := Try.checked) false ⟨#[], #[.agg #[.bool false, .int .u64 0, .int .u64 0], .agg #[.bool false, .int .u64 0, .int .u64 0], .slice none 0 0], []⟩ 8 (by kernel_rfl) (by kernel_rfl) (by kernel_rfl) (by kernel_rfl)) ?_
  intro W base args ds gs before hval0 hW hcnd _
  have hval : ∀ (j : Nat) t v, Try.f4.params[j]? = some t → args[j]? = some v → Value.okWide Try.prog W .any base t v := hval0
  have hW' := hW
  obtain ⟨p, q, hA0, hV, rfl, hfz, hnd⟩ := hW
  have hA : DataW.TrodAll enc Try.prog W 0 (fun _ => true) true Try.f4.params.toList args.toList ds p := hA0
  rw [Try.params4] at hA hval
  obtain ⟨v0, vs0, d0, ds0, p0, q0, hargs, rfl, rfl, h0, r0⟩ := trodAll_cons hA
  obtain ⟨v1, vs1, d1, ds1, p1, q1, rfl, rfl, rfl, h1, r1⟩ := trodAll_cons r0
  obtain ⟨v2, vs2, d2, ds2, p2, q2, rfl, rfl, rfl, h2, r2⟩ := trodAll_cons r1
  obtain ⟨rfl, rfl, rfl⟩ := trodAll_nil r2
  obtain rfl : args = #[v0, v1, v2] := by cases args; simp_all
  obtain ⟨rfl, rfl⟩ := trodVars_none hV
  have k0 := h0
  have lt0 : ∀ x ∈ p0, x.block < W.heap.size := by obtain ⟨m, hm⟩ := k0; exact DataW.trod_lt m _ _ _ hm
  have k1 := h1
  have lt1 : ∀ x ∈ p1, x.block < W.heap.size := by obtain ⟨m, hm⟩ := k1; exact DataW.trod_lt m _ _ _ hm
  have k2 := h2
  have lt2 : ∀ x ∈ p2, x.block < W.heap.size := by obtain ⟨m, hm⟩ := k2; exact DataW.trod_lt m _ _ _ hm
  obtain ⟨cs0, rfl, hcl0, hlf0⟩ := open_leafs Try.underlying26 leafs0 (hval 0 26 v0 rfl rfl) h0
  rw [cells0] at hcl0
  obtain ⟨c0_0, c0_1, c0_2, rfl⟩ := list0 cs0 hcl0
  obtain ⟨_, _, t0_0⟩ := hlf0 4 0 (by simp)
  simp only [List.drop_succ_cons, List.drop_zero, List.take_succ_cons, List.take_zero] at t0_0
  obtain ⟨b0_0, e0_0⟩ := open_bool' t0_0
  obtain ⟨_, _, t0_1⟩ := hlf0 24 1 (by simp)
  obtain ⟨i0_1, e0_1, _, hw0_1⟩ := DataW.trod_int Try.underlying24 t0_1
  simp only [List.drop_succ_cons, List.drop_zero, List.take_succ_cons, List.take_zero, List.cons.injEq, and_true] at e0_1
  obtain ⟨_, _, t0_2⟩ := hlf0 24 2 (by simp)
  obtain ⟨i0_2, e0_2, _, hw0_2⟩ := DataW.trod_int Try.underlying24 t0_2
  simp only [List.drop_succ_cons, List.drop_zero, List.take_succ_cons, List.take_zero, List.cons.injEq, and_true] at e0_2
  subst e0_0 e0_1 e0_2
  obtain ⟨cs1, rfl, hcl1, hlf1⟩ := open_leafs Try.underlying26 leafs1 (hval 1 26 v1 rfl rfl) h1
  rw [cells1] at hcl1
  obtain ⟨c1_0, c1_1, c1_2, rfl⟩ := list1 cs1 hcl1
  obtain ⟨_, _, t1_0⟩ := hlf1 4 0 (by simp)
  simp only [List.drop_succ_cons, List.drop_zero, List.take_succ_cons, List.take_zero] at t1_0
  obtain ⟨b1_0, e1_0⟩ := open_bool' t1_0
  obtain ⟨_, _, t1_1⟩ := hlf1 24 1 (by simp)
  obtain ⟨i1_1, e1_1, _, hw1_1⟩ := DataW.trod_int Try.underlying24 t1_1
  simp only [List.drop_succ_cons, List.drop_zero, List.take_succ_cons, List.take_zero, List.cons.injEq, and_true] at e1_1
  obtain ⟨_, _, t1_2⟩ := hlf1 24 2 (by simp)
  obtain ⟨i1_2, e1_2, _, hw1_2⟩ := DataW.trod_int Try.underlying24 t1_2
  simp only [List.drop_succ_cons, List.drop_zero, List.take_succ_cons, List.take_zero, List.cons.injEq, and_true] at e1_2
  subst e1_0 e1_1 e1_2
  obtain ⟨_, _, _, hs2⟩ := okWide_slice Try.underlying22 (hval 2 22 v2 rfl rfl)
  obtain ⟨f2, hf2⟩ := h2
  rw [show v2.cells.toList = [v2] by rw [hs2]; rfl] at hf2
  clear hs2
  obtain ⟨A2, n2, cp2, xs2, e2, hx2, hn2, hc2⟩ := open_bytes hf2
  subst e2
  clear hA0 hval0
  refine (Tun.wraps_walk b0_0 i0_1 i0_2 b1_0 i1_1 i1_2 A2 n2 cp2 xs2 W hw0_1 hw0_2 hw1_1 hw1_2 hx2 hn2 hc2).mono fun e W' ⟨he, bel⟩ => ?_
  subst he
  exact ⟨_, rfl, _, _, _, [], _, [], hW', trodAll_mk1 (shut_bool Try.underlying4 _), (trodAll_cons_mk (Below.trod laidOut (by kernel_rfl) (of_decide_eq_true (by kernel_rfl)) k0 bel lt0) (trodAll_cons_mk (Below.trod laidOut (by kernel_rfl) (of_decide_eq_true (by kernel_rfl)) k1 bel lt1) (trodAll_cons_mk (Below.trod laidOut (by kernel_rfl) (of_decide_eq_true (by kernel_rfl)) k2 bel lt2) trodAll_mk0))), rfl, bel.frame _, fun h => by cases h⟩
theorem over : Rows.tunWrapsRow.holds Try.pinned (OpenSpec.ofChange Rows.tunWrapsSpec) :=
  OpenClaim.holds_of_wide 4 Try.f4 rfl rfl rfl rfl rfl rfl rfl ⟨rfl, rfl, rfl, rfl, rfl⟩ rfl rfl rfl rfl rfl (by kernel_rfl) Try.func4 (by kernel_rfl)
    (of_decide_eq_true (by kernel_rfl)) (by unfold Func.isWrapper; first | (rw [if_pos (by decide +kernel)]; kernel_rfl) | (rw [if_neg (by decide +kernel)]; exact ⟨rfl, rfl⟩))
    (fun os started H enc _ => lifted os started H enc)
end RowTunWraps
theorem tunWraps_holds : Rows.TunWrapsSaid := RowTunWraps.over
end Go.Proofs.Ytdmgbngdpjcliaa
