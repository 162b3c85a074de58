/- Which ops may be kept, by contract. Condition: an op whose sizes may be. -/
import Derived.Test.YtniieckjooahfaaSnapOps
import Derived.Test.YtniieckjooahfaaOwn
import Derived.Deep.DeepCutAuto
namespace Go.Proofs.Ytniieckjooahfaa
open Go.RowKit Go.ChangeShapes Go.WideShapes Go.ChangeAt Go.Deep
namespace Snap
set_option maxRecDepth 20000 in
set_option maxHeartbeats 4000000 in
theorem right_any (e : OpD) (w : World) (hl : e.o.xs.length ≤ maxLen) (hs : e.o.s.length ≤ maxLen) :
    Calls Try.prog 38 #[e.v] w fun x w' => x = .returned (.bool (decide (okOp e.o))) ∧ Below w.heap.size w w' := by
  unfold maxLen at hl hs
  obtain ⟨⟨k, xs, s, h, n, up⟩, A, c⟩ := e
  obtain ⟨r, hr⟩ : ∃ r, decide (okOp ⟨k, xs, s, h, n, up⟩) = r := ⟨_, rfl⟩
  simp only at hl hs ⊢
  rw [hr]
  unfold okOp at hr
  unfold OpD.v
  simp only at hr ⊢
  have hss := str_size s
  generalize str s = sb at hss ⊢
  have hb : Below w.heap.size w (w.alloc (.cells #[.int .i64 k, .slice A xs.length c, .string sb, .int .i64 h, .int .i64 n, .bool up] 77)) := (Below.refl _ _).alloc (Nat.le_refl _) _
  have hbox := blk_new w 77 #[.int .i64 k, .slice A xs.length c, .string sb, .int .i64 h, .int .i64 n, .bool up]
  obtain ⟨w1, hw1⟩ : ∃ w1, w.alloc (.cells #[.int .i64 k, .slice A xs.length c, .string sb, .int .i64 h, .int .i64 n, .bool up] 77) = w1 := ⟨_, rfl⟩
  rw [hw1] at hb hbox
  have hcg := blk_cell hbox
  replace hb := hide hb
  replace hbox := hide hbox
  replace hr := hide hr
  go_enter Try.func38, Try.ntmps38
  go_wp2_with fail
  all_goals
    go_ret
    refine ⟨ret_bool ?_, hb.out⟩
    rw [← hr.out]
    first
      | exact (decide_eq_false (by omega)).symm
      | exact decide_eq_decide.2 ⟨fun _ => by omega, fun _ => by omega⟩
set_option maxRecDepth 20000 in
set_option maxHeartbeats 4000000 in
theorem lawRight_any (e : OpD) (w : World) (hl : e.o.xs.length ≤ maxLen) (hs : e.o.s.length ≤ maxLen) :
    Calls Try.prog 37 #[e.v] w fun x w' => x = .returned (.bool (decide (okOp e.o))) ∧ Below w.heap.size w w' := by
  unfold maxLen at hl hs
  obtain ⟨⟨k, xs, s, h, n, up⟩, A, c⟩ := e
  obtain ⟨r, hr⟩ : ∃ r, decide (okOp ⟨k, xs, s, h, n, up⟩) = r := ⟨_, rfl⟩
  simp only at hl hs ⊢
  rw [hr]
  unfold okOp at hr
  unfold OpD.v
  simp only at hr ⊢
  have hss := str_size s
  generalize str s = sb at hss ⊢
  have hb : Below w.heap.size w (w.alloc (.cells #[.int .i64 k, .slice A xs.length c, .string sb, .int .i64 h, .int .i64 n, .bool up] 77)) := (Below.refl _ _).alloc (Nat.le_refl _) _
  have hbox := blk_new w 77 #[.int .i64 k, .slice A xs.length c, .string sb, .int .i64 h, .int .i64 n, .bool up]
  obtain ⟨w1, hw1⟩ : ∃ w1, w.alloc (.cells #[.int .i64 k, .slice A xs.length c, .string sb, .int .i64 h, .int .i64 n, .bool up] 77) = w1 := ⟨_, rfl⟩
  rw [hw1] at hb hbox
  have hcg := blk_cell hbox
  replace hb := hide hb
  replace hbox := hide hbox
  replace hr := hide hr
  go_enter Try.func37, Try.ntmps37
  go_wp2_with fail
  all_goals
    go_ret
    refine ⟨ret_bool ?_, hb.out⟩
    rw [← hr.out]
    first
      | exact (decide_eq_false (by omega)).symm
      | exact decide_eq_decide.2 ⟨fun _ => by omega, fun _ => by omega⟩
end Snap
end Go.Proofs.Ytniieckjooahfaa
