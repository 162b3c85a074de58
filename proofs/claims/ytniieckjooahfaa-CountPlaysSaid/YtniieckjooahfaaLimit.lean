/- count.Limit (NewLimit, Take, Give, Taken) by contract, and sync/atomic's Int64 beneath. Conditions: the counter's block as it is made. -/
import Derived.Test.YtniieckjooahfaaMem
import Derived.WalkSpells
import Derived.LaidEqlPtr
namespace Go.Proofs.Ytniieckjooahfaa
open Go.RowKit Go.ChangeShapes Go.WideShapes Go.ChangeAt Go.Deep
namespace Atomic
theorem load_name : (Try.f104.name == "runtime.NumGoroutine") = false := by kernel_rfl
theorem load_body : Try.f104.body.isNone = true := by kernel_rfl
theorem load_next : Extern.findNext Try.f104 = none := by kernel_rfl
theorem load_find : Extern.find Try.f104 = some (Extern.Atomic.loadT (.int .i64)) := by kernel_rfl
theorem cas_name : (Try.f105.name == "runtime.NumGoroutine") = false := by kernel_rfl
theorem cas_body : Try.f105.body.isNone = true := by kernel_rfl
theorem cas_next : Extern.findNext Try.f105 = none := by kernel_rfl
theorem cas_find : Extern.find Try.f105 = some (Extern.Atomic.casT (.int .i64)) := by kernel_rfl
theorem load_run {a : Addr} {x : Int} {w : World} (hc : w.cell? a = some (.int .i64 x)) : (callFunc 104 #[.pointer (some a)]).run Try.prog w = .ok (.value (.int .i64 x)) w :=
  run_call_load Try.func104 load_name load_body load_next .i64 load_find hc
theorem cas_run {a : Addr} {x y : Int} {w : World} (hc : w.cell? a = some (.int .i64 x)) (hz : w.frozen? a = false) : (callFunc 105 #[.pointer (some a), .int .i64 x, .int .i64 y]).run Try.prog w = .ok (.value (.bool true)) (w.setCell a (.int .i64 y)) :=
  run_call_cas_hit Try.func105 cas_name cas_body cas_next .i64 cas_find hc hz
theorem load_any (g o : Nat) (x : Int) (w : World) (hc : w.cell? ⟨g, o, none⟩ = some (.int .i64 x)) :
    Calls Try.prog 70 #[.pointer (some ⟨g, o, none⟩)] w fun e w' => e = .returned (.int .i64 x) ∧ w = w' := by
  have hrun := load_run hc
  go_enter Try.func70, Try.ntmps70
  go_wp2
  go_ret
  exact ⟨rfl, rfl⟩
theorem cas_any (g o : Nat) (x y : Int) (w : World) (hc : w.cell? ⟨g, o, none⟩ = some (.int .i64 x)) (hz : w.frozen? ⟨g, o, none⟩ = false) :
    Calls Try.prog 71 #[.pointer (some ⟨g, o, none⟩), .int .i64 x, .int .i64 y] w fun e w' => e = .returned (.bool true) ∧ w.setCell ⟨g, o, none⟩ (.int .i64 y) = w' := by
  have hrun := cas_run (y := y) hc hz
  go_enter Try.func71, Try.ntmps71
  go_wp2
  go_ret
  exact ⟨rfl, rfl⟩
end Atomic
namespace Limit
def cellsL (n m : Int) : Array Value := #[.int .i64 n, .int .i64 m]
def IsL (w : World) (g : Nat) (n m : Int) : Prop := w.heap[g]? = some (.cells (cellsL n m) 115 (0, 0))
theorem isL_set {w : World} {g : Nat} {n m : Int} (h : IsL w g n m) (k : Int) : IsL (w.setCell ⟨g, 0, none⟩ (.int .i64 k)) g k m := by
  have := blk_set h 0 (.int .i64 k)
  simpa [IsL, cellsL] using this
theorem new_any (m : Int) (w : World) :
    Calls Try.prog 18 #[.int .i64 m] w fun e w' => e = .returned (.pointer (some ⟨w.heap.size, 0, none⟩)) ∧ w.alloc (.cells (cellsL 0 (max m 0)) 115) = w' := by
  by_cases hm : 0 ≤ m
  · rw [show max m 0 = m by omega]
    go_enter Try.func18, Try.ntmps18
    go_wp2
    go_ret
    exact ⟨rfl, rfl⟩
  · rw [show max m 0 = 0 by omega]
    go_enter Try.func18, Try.ntmps18
    go_wp2
    go_ret
    exact ⟨rfl, rfl⟩
theorem take_yes (g : Nat) (n m : Int) (w : World) (h : IsL w g n m) (hn : n < m) (h0 : 0 ≤ n) (hm : m ≤ 9223372036854775807) :
    Calls Try.prog 19 #[.pointer (some ⟨g, 0, none⟩)] w fun e w' => e = .returned (.bool true) ∧ w.setCell ⟨g, 0, none⟩ (.int .i64 (n + 1)) = w' := by
  have hc0 := blk_cell h 0
  have hc1 := blk_cell h 1
  have hz := blk_free h 0
  simp only [cellsL] at hc0 hc1
  go_enter Try.func19, Try.ntmps19
  go_wp2_with fail
  refine wp_loop_once ?_
  go_wp2_with fail
  refine (Atomic.load_any g 0 n _ hc0).mono ?_
  rintro e w' ⟨rfl, rfl⟩
  go_wp2_with fail
  refine (Atomic.cas_any g 0 n (n + 1) _ hc0 hz).mono ?_
  rintro e w' ⟨rfl, rfl⟩
  go_wp2_with fail
  go_ret
  exact ⟨rfl, rfl⟩
theorem take_no (g : Nat) (n m : Int) (w : World) (h : IsL w g n m) (hn : ¬ n < m) :
    Calls Try.prog 19 #[.pointer (some ⟨g, 0, none⟩)] w fun e w' => e = .returned (.bool false) ∧ w = w' := by
  have hc0 := blk_cell h 0
  have hc1 := blk_cell h 1
  simp only [cellsL] at hc0 hc1
  go_enter Try.func19, Try.ntmps19
  go_wp2_with fail
  refine wp_loop_once ?_
  go_wp2_with fail
  refine (Atomic.load_any g 0 n _ hc0).mono ?_
  rintro e w' ⟨rfl, rfl⟩
  go_wp2_with fail
  go_ret
  exact ⟨rfl, rfl⟩
theorem give_yes (g : Nat) (n m : Int) (w : World) (h : IsL w g n m) (hn : 0 < n) (hm : n ≤ 9223372036854775807) :
    Calls Try.prog 20 #[.pointer (some ⟨g, 0, none⟩)] w fun e w' => e = .returned (.bool true) ∧ w.setCell ⟨g, 0, none⟩ (.int .i64 (n - 1)) = w' := by
  have hc0 := blk_cell h 0
  have hz := blk_free h 0
  simp only [cellsL] at hc0
  go_enter Try.func20, Try.ntmps20
  go_wp2_with fail
  refine wp_loop_once ?_
  go_wp2_with fail
  refine (Atomic.load_any g 0 n _ hc0).mono ?_
  rintro e w' ⟨rfl, rfl⟩
  go_wp2_with fail
  refine (Atomic.cas_any g 0 n (n - 1) _ hc0 hz).mono ?_
  rintro e w' ⟨rfl, rfl⟩
  go_wp2_with fail
  go_ret
  exact ⟨rfl, rfl⟩
theorem give_no (g : Nat) (n m : Int) (w : World) (h : IsL w g n m) (hn : ¬ 0 < n) :
    Calls Try.prog 20 #[.pointer (some ⟨g, 0, none⟩)] w fun e w' => e = .returned (.bool false) ∧ w = w' := by
  have hc0 := blk_cell h 0
  simp only [cellsL] at hc0
  go_enter Try.func20, Try.ntmps20
  go_wp2_with fail
  refine wp_loop_once ?_
  go_wp2_with fail
  refine (Atomic.load_any g 0 n _ hc0).mono ?_
  rintro e w' ⟨rfl, rfl⟩
  go_wp2_with fail
  go_ret
  exact ⟨rfl, rfl⟩
theorem taken_any (g : Nat) (n m : Int) (w : World) (h : IsL w g n m) :
    Calls Try.prog 21 #[.pointer (some ⟨g, 0, none⟩)] w fun e w' => e = .returned (.int .i64 n) ∧ w = w' := by
  have hc0 := blk_cell h 0
  simp only [cellsL] at hc0
  go_enter Try.func21, Try.ntmps21
  go_wp2_with fail
  refine (Atomic.load_any g 0 n _ hc0).mono ?_
  rintro e w' ⟨rfl, rfl⟩
  go_wp2_with fail
  go_ret
  exact ⟨rfl, rfl⟩
theorem new_as (m : Int) (w : World) :
    Calls Try.prog 18 #[.int .i64 m] w fun e w' => e = .returned (.pointer (some ⟨w.heap.size, 0, none⟩)) ∧ IsL w' w.heap.size 0 (max m 0) ∧ Below w.heap.size w w' ∧ w.heap.size < w'.heap.size :=
  (new_any m w).mono fun e w' ⟨he, hw⟩ => ⟨he, hw ▸ blk_new _ _ _, hw ▸ (Below.refl _ _).alloc (Nat.le_refl _) _, hw ▸ by simp⟩
theorem take_yes_as (g : Nat) (n m : Int) (w : World) (h : IsL w g n m) (hn : n < m) (h0 : 0 ≤ n) (hm : m ≤ 9223372036854775807) :
    Calls Try.prog 19 #[.pointer (some ⟨g, 0, none⟩)] w fun e w' => e = .returned (.bool true) ∧ IsL w' g (n + 1) m ∧ w.grownBy w' (some g) :=
  (take_yes g n m w h hn h0 hm).mono fun e w' ⟨he, hw⟩ => ⟨he, hw ▸ isL_set h _, hw ▸ grown_set (grown_refl _ _) rfl _⟩
theorem give_yes_as (g : Nat) (n m : Int) (w : World) (h : IsL w g n m) (hn : 0 < n) (hm : n ≤ 9223372036854775807) :
    Calls Try.prog 20 #[.pointer (some ⟨g, 0, none⟩)] w fun e w' => e = .returned (.bool true) ∧ IsL w' g (n - 1) m ∧ w.grownBy w' (some g) :=
  (give_yes g n m w h hn hm).mono fun e w' ⟨he, hw⟩ => ⟨he, hw ▸ isL_set h _, hw ▸ grown_set (grown_refl _ _) rfl _⟩
end Limit
end Go.Proofs.Ytniieckjooahfaa
