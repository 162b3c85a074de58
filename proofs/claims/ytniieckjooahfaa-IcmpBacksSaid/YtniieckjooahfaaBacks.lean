/- For every flow: shown the other way round it is that flow the other way round, and back again it is the flow itself (IcmpBacks). No condition. -/
import Derived.Test.YtniieckjooahfaaRows
import Derived.Test.YtniieckjooahfaaCore
namespace Go.Proofs.Ytniieckjooahfaa
open Go.RowKit Go.ChangeShapes Go.WideShapes Go.ChangeAt Go.Deep

namespace Backs
theorem own : ownKnob Try.prog.godebug = none := by kernel_rfl
theorem laidOut : laidOutB Try.prog = true := by kernel_rfl

set_option maxHeartbeats 400000 in
theorem back_any (pr sp dp : Int) (sv dv : Bool) (sh sl dh dl : Int) (w : World) :
    Calls Try.prog 16 #[.agg #[.int .i64 pr, .bool sv, .int .u64 sh, .int .u64 sl, .bool dv, .int .u64 dh, .int .u64 dl, .int .i64 sp, .int .i64 dp]] w fun e w' => e = .returned (.agg #[.int .i64 pr, .bool dv, .int .u64 dh, .int .u64 dl, .bool sv, .int .u64 sh, .int .u64 sl, .int .i64 dp, .int .i64 sp]) ∧ Below w.heap.size w w' := by
  go_enter Try.func16, Try.ntmps16
  go_wp2
  refine bodyPost_ret (v := .agg #[.int .i64 pr, .bool dv, .int .u64 dh, .int .u64 dl, .bool sv, .int .u64 sh, .int .u64 sl, .int .i64 dp, .int .i64 sp]) (by simp [results, Try.results16, go_sem]) rfl ⟨rfl, ?_⟩
  exact ((Below.refl _ _).alloc (Nat.le_refl _) _).alloc (by simp) _
set_option maxHeartbeats 400000 in
theorem awake12 (w : World) :
    Calls Try.prog 17 #[] w fun e w' => e = .returned (.bool true) ∧ Below w.heap.size w w' := by
  go_enter Try.func17, Try.ntmps17
  go_wp2
  go_ret
  exact ⟨rfl, Below.refl _ _⟩
set_option maxHeartbeats 400000 in
theorem walk (pr sp dp : Int) (sv dv : Bool) (sh sl dh dl : Int) (w : World) :
    Calls Try.prog 3 #[.agg #[.int .i64 pr, .bool sv, .int .u64 sh, .int .u64 sl, .bool dv, .int .u64 dh, .int .u64 dl, .int .i64 sp, .int .i64 dp]] w fun e w' => e = .returned (.bool true) ∧ Below w.heap.size w w' := by
  go_enter Try.func3, Try.ntmps3
  go_wp2_with (go_at_call 16; refine (back_any _ _ _ _ _ _ _ _ _ _).mono ?_; rintro e w1 ⟨rfl, hb⟩)
  obtain ⟨w2, hw2⟩ : ∃ w2, w1.alloc (.cells #[.int .i64 pr, .bool dv, .int .u64 dh, .int .u64 dl, .bool sv, .int .u64 sh, .int .u64 sl, .int .i64 dp, .int .i64 sp] 26) = w2 := ⟨_, rfl⟩
  have hz := hb.size
  simp only [World.size_alloc] at hz
  have hA : ∀ (l : Later w2) (o : Nat), l.w.cell? ⟨w.heap.size, o, none⟩ = (#[.int .i64 pr, .bool sv, .int .u64 sh, .int .u64 sl, .bool dv, .int .u64 dh, .int .u64 dl, .int .i64 sp, .int .i64 dp] : Array Value)[o]? := by
    intro l o
    subst hw2
    exact blk_cell (blk_below l.hb (by simp; omega) (blk_old _ (by omega) (blk_below hb (by simp) (blk_new _ _ _)))) o
  have hB : ∀ (l : Later w2) (o : Nat), l.w.cell? ⟨w1.heap.size, o, none⟩ = (#[.int .i64 pr, .bool dv, .int .u64 dh, .int .u64 dl, .bool sv, .int .u64 sh, .int .u64 sl, .int .i64 dp, .int .i64 sp] : Array Value)[o]? := by
    intro l o
    subst hw2
    exact blk_cell (blk_below l.hb (by simp) (blk_new _ _ _)) o
  have hbw : Below w.heap.size w w2 := by
    subst hw2
    exact (((Below.refl _ _).alloc (Nat.le_refl _) _).trans (hb.mono (by simp))).alloc (by omega) _
  clear hb hz
  rw [hw2]
  clear hw2
  refine wp_region_later (by kernel_rfl) (by kernel_rfl) ?_
  repeat (quiet_step (first
    | (go_at_call 16; refine (back_any _ _ _ _ _ _ _ _ _ _).mono ?_; rintro e w' ⟨rfl, hb⟩; exact ⟨rfl, Later.step _ hb⟩)
    | (go_at_call 17; refine (awake12 _).mono ?_; rintro e w' ⟨rfl, hb⟩; exact ⟨rfl, Later.step _ hb⟩)))
  refine wpQuiet_nil ?_
  intro l
  go_wp2
  go_ret
  exact ⟨by simp, hbw.trans (l.hb.mono hbw.size)⟩

theorem list9 (l : List Value) (h : l.length = 9) : ∃ c0 c1 c2 c3 c4 c5 c6 c7 c8, l = [c0, c1, c2, c3, c4, c5, c6, c7, c8] := by
  match l, h with
  | [c0, c1, c2, c3, c4, c5, c6, c7, c8], _ => exact ⟨c0, c1, c2, c3, c4, c5, c6, c7, c8, rfl⟩
theorem leafs : leafsOf Try.prog 5 26 0 = some [(3, 0), (4, 1), (22, 2), (22, 3), (4, 4), (22, 5), (22, 6), (3, 7), (3, 8)] := by kernel_rfl
theorem cells : Try.prog.cellsOf 26 = 9 := by kernel_rfl

set_option maxRecDepth 100000 in
theorem lifted (os : Os) (started : os.Started) (H : Type) (enc : TypeId × Value → H) :
    ReturnsInHanded {} Try.checked os 3 .any (Rows.icmpBacksSpec.pre6 enc Try.prog Try.f3 Rows.icmpBacksRow.domain false) (Rows.icmpBacksSpec.post enc Try.prog Try.f3 false true false false) := by
  refine returnsInHanded_of_change (C := Try.checked) own started (by kernel_rfl) Try.func3
    (ChangeSpec.witness6 (enc := enc) (C := Try.checked) false ⟨#[], #[.agg #[.int .i64 0, .bool false, .int .u64 0, .int .u64 0, .bool false, .int .u64 0, .int .u64 0, .int .i64 0, .int .i64 0]], []⟩ 8 (by kernel_rfl) (by kernel_rfl) (by kernel_rfl) (by kernel_rfl)) ?_
  intro W base args ds gs before hval0 hW hcnd _
  have hval : ∀ (j : Nat) t v, Try.f3.params[j]? = some t → args[j]? = some v → Value.okWide Try.prog W .any base t v := hval0
  have hW' := hW
  obtain ⟨p, q, hA0, hV, rfl, hfz, hnd⟩ := hW
  have hA : DataW.TrodAll enc Try.prog W 0 (fun _ => true) true Try.f3.params.toList args.toList ds p := hA0
  rw [Try.params3] at hA hval
  obtain ⟨v0, vs0, d0, ds0, p0, q0, hargs, rfl, rfl, h0, r0⟩ := trodAll_cons hA
  obtain ⟨rfl, rfl, rfl⟩ := trodAll_nil r0
  obtain rfl : args = #[v0] := by cases args; simp_all
  obtain ⟨rfl, rfl⟩ := trodVars_none hV
  have k0 := h0
  have lt0 : ∀ x ∈ p0, x.block < W.heap.size := by obtain ⟨m, hm⟩ := k0; exact DataW.trod_lt m _ _ _ hm
  obtain ⟨cs, rfl, hcl, hlf⟩ := open_leafs Try.underlying26 leafs (hval 0 26 v0 rfl rfl) h0
  rw [cells] at hcl
  obtain ⟨c0, c1, c2, c3, c4, c5, c6, c7, c8, rfl⟩ := list9 cs hcl
  clear hA0 hval0
  obtain ⟨_, _, t0⟩ := hlf 3 0 (by simp)
  obtain ⟨_, _, t1⟩ := hlf 4 1 (by simp)
  obtain ⟨_, _, t2⟩ := hlf 22 2 (by simp)
  obtain ⟨_, _, t3⟩ := hlf 22 3 (by simp)
  obtain ⟨_, _, t4⟩ := hlf 4 4 (by simp)
  obtain ⟨_, _, t5⟩ := hlf 22 5 (by simp)
  obtain ⟨_, _, t6⟩ := hlf 22 6 (by simp)
  obtain ⟨_, _, t7⟩ := hlf 3 7 (by simp)
  obtain ⟨_, _, t8⟩ := hlf 3 8 (by simp)
  obtain ⟨n0, e0, _, _⟩ := DataW.trod_int Try.underlying3 t0
  obtain ⟨n1, e1, _⟩ := DataW.trod_bool Try.underlying4 t1
  obtain ⟨n2, e2, _, _⟩ := DataW.trod_int Try.underlying22 t2
  obtain ⟨n3, e3, _, _⟩ := DataW.trod_int Try.underlying22 t3
  obtain ⟨n4, e4, _⟩ := DataW.trod_bool Try.underlying4 t4
  obtain ⟨n5, e5, _, _⟩ := DataW.trod_int Try.underlying22 t5
  obtain ⟨n6, e6, _, _⟩ := DataW.trod_int Try.underlying22 t6
  obtain ⟨n7, e7, _, _⟩ := DataW.trod_int Try.underlying3 t7
  obtain ⟨n8, e8, _, _⟩ := DataW.trod_int Try.underlying3 t8
  simp at e0 e1 e2 e3 e4 e5 e6 e7 e8
  subst e0 e1 e2 e3 e4 e5 e6 e7 e8
  refine (walk n0 n7 n8 n1 n4 n2 n3 n5 n6 W).mono fun e W' ⟨he, bel⟩ => ?_
  subst he
  exact ⟨_, rfl, _, _, _, [], _, [], hW', trodAll_mk1 (shut_bool Try.underlying4 _), (trodAll_cons_mk (Below.trod laidOut (by kernel_rfl) (of_decide_eq_true (by kernel_rfl)) k0 bel lt0) trodAll_mk0), rfl, bel.frame _, fun h => by cases h⟩

theorem over : Rows.icmpBacksRow.holds Try.pinned (OpenSpec.ofChange Rows.icmpBacksSpec) :=
  OpenClaim.holds_of_wide 3 Try.f3 rfl rfl rfl rfl rfl rfl rfl ⟨rfl, rfl, rfl, rfl, rfl⟩ rfl rfl rfl rfl rfl (by kernel_rfl) Try.func3 (by kernel_rfl)
    (of_decide_eq_true (by kernel_rfl)) (by unfold Func.isWrapper; first | (rw [if_pos (by decide +kernel)]; kernel_rfl) | (rw [if_neg (by decide +kernel)]; exact ⟨rfl, rfl⟩))
    (fun os started H enc _ => lifted os started H enc)
end Backs
theorem icmpBacks_holds : Rows.IcmpBacksSaid := Backs.over
end Go.Proofs.Ytniieckjooahfaa
