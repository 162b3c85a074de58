/- How an argument is opened that is a slice of headers that extend one. No condition. -/
import Derived.Test.YtniieckjooahfaaOpen
import Derived.Test.YtniieckjooahfaaSixHead
namespace Go.Proofs.Ytniieckjooahfaa
open Go.RowKit Go.ChangeShapes Go.WideShapes Go.ChangeAt Go.Deep
namespace Six
theorem leafsX : leafsOf Try.prog 5 141 0 = some [(3, 0), (35, 1)] := by kernel_rfl
theorem cellsX : Try.prog.cellsOf 141 = 2 := by kernel_rfl
section
variable {H : Type} {enc : TypeId × Value → H} {w : World} {spare : Nat → Bool} {held : Bool}
theorem open_exts {m : Nat} {v : Value} {y : DataW H × List MemPlace} (h : DataW.trod enc Try.prog w 0 spare held m 97 [v] = some y) :
    ∃ A n c es, v = .slice A n c ∧ IsX w w.heap.size A n es ∧ n ≤ c ∧ c ≤ maxLen := by
  obtain ⟨A, n, c, rows, e, hl, hr, hv, h1, h2⟩ := open_rows (size := 2) (fun cs => ∃ (k : Int) (A : Option Addr) (n c : Nat) (xs : List UInt8), cs = [.int .i64 k, .slice A n c] ∧ IsB w w.heap.size A n xs ∧ n ≤ c ∧ c ≤ maxLen) Try.underlying97 cellsX (by omega)
    (fun n cs y h hcl => by
      have hlf := trod_leafs cs 5 141 0 _ n y leafsX (by rw [cellsX, List.drop_zero, List.take_of_length_le (by omega)]; exact h)
      match cs, hcl with
      | [a, b], _ =>
        obtain ⟨_, _, t0⟩ := hlf 3 0 (by simp)
        obtain ⟨_, _, t1⟩ := hlf 35 1 (by simp)
        simp only [List.drop_succ_cons, List.drop_zero, List.take_succ_cons, List.take_zero] at t0 t1
        obtain ⟨k, rfl, _⟩ := open_i64 t0
        obtain ⟨A, n, c, xs, rfl, hx, hn, hc⟩ := open_bytes t1
        exact ⟨k, A, n, c, xs, rfl, hx, hn, hc⟩) h
  have hb : ∃ es : List Ext, es.length = rows.length ∧ rows.flatten = cells es ∧ ∀ e ∈ es, IsB w w.heap.size e.A e.xs.length e.xs ∧ e.xs.length ≤ e.c ∧ e.c ≤ maxLen := by
    clear hl hv
    induction rows with
    | nil => exact ⟨[], rfl, rfl, fun e he => by cases he⟩
    | cons r rows ih =>
      obtain ⟨es, hes0, hes, hes2⟩ := ih (fun r hr' => hr r (by simp [hr']))
      obtain ⟨_, k, A, n, c, xs, rfl, hx, hn, hc⟩ := hr r (by simp)
      obtain rfl := hx.1
      refine ⟨⟨k, A, c, xs⟩ :: es, by simp [hes0], ?_, fun e he => ?_⟩
      · rw [List.flatten_cons, hes]
        rfl
      · rcases List.mem_cons.1 he with rfl | he
        · exact ⟨hx, hn, hc⟩
        · exact hes2 e he
  obtain ⟨es, hes0, hes, hes2⟩ := hb
  exact ⟨A, n, c, es, e, ⟨by omega, hes ▸ hv, hes2⟩, h1, h2⟩
end
end Six
end Go.Proofs.Ytniieckjooahfaa
