/- A slice of calls to counters (two ints each), as it is read and as it is opened. No condition. -/
import Derived.Test.YtniieckjooahfaaOpen
namespace Go.Proofs.Ytniieckjooahfaa
open Go.RowKit Go.ChangeShapes Go.WideShapes Go.ChangeAt Go.Deep
namespace Count
def opsV (es : List (Int × Int)) : List Value := (es.map fun e => [Value.int .i64 e.1, Value.int .i64 e.2]).flatten
theorem ops_len (es : List (Int × Int)) : (opsV es).length = es.length * 2 := by
  induction es with
  | nil => rfl
  | cons e es ih => simp only [opsV, List.map_cons, List.flatten_cons, List.length_append, List.length_cons, List.length_nil] at ih ⊢; omega
theorem ops_at (es : List (Int × Int)) (i : Nat) (k m : Int) (h : es[i]? = some (k, m)) : (opsV es)[i * 2]? = some (.int .i64 k) ∧ (opsV es)[i * 2 + 1]? = some (.int .i64 m) := by
  induction es generalizing i with
  | nil => simp at h
  | cons e es ih =>
    have hc : opsV (e :: es) = [Value.int .i64 e.1, Value.int .i64 e.2] ++ opsV es := by simp [opsV]
    rw [hc]
    cases i with
    | zero =>
      simp only [List.getElem?_cons_zero, Option.some.injEq] at h
      subst h
      exact ⟨rfl, rfl⟩
    | succ i =>
      have h' : es[i]? = some (k, m) := by simpa using h
      obtain ⟨h1, h2⟩ := ih i h'
      rw [List.getElem?_append_right (by simp; omega), List.getElem?_append_right (by simp; omega)]
      simp only [List.length_cons, List.length_nil]
      rw [show (i + 1) * 2 - (0 + 1 + 1) = i * 2 by omega, show (i + 1) * 2 + 1 - (0 + 1 + 1) = i * 2 + 1 by omega]
      exact ⟨h1, h2⟩
def IsOps (w : World) (B : Nat) (A : Option Addr) (n : Nat) (es : List (Int × Int)) : Prop := es.length = n ∧ IsV w B 2 A n (opsV es)
theorem IsOps.at {w : World} {B n : Nat} {A : Option Addr} {es : List (Int × Int)} (h : IsOps w B A n es) {i : Nat} (hi : i < n) :
    ∃ b off k m, A = some ⟨b, off, none⟩ ∧ b < B ∧ es[i]? = some (k, m) ∧ w.cell? ⟨b, off + i * 2, none⟩ = some (.int .i64 k) ∧ w.cell? ⟨b, off + i * 2 + 1, none⟩ = some (.int .i64 m) := by
  obtain ⟨b, off, e, hb, hc⟩ := h.2.2 (by omega)
  have h1 : es[i]? = some (es[i]'(by have := h.1; omega)) := List.getElem?_eq_getElem _
  have h2 := ops_at es i _ _ h1
  have h3 := List.getElem?_eq_some_iff.1 h2.1
  have h4 := List.getElem?_eq_some_iff.1 h2.2
  obtain ⟨l1, e1⟩ := h3
  obtain ⟨l2, e2⟩ := h4
  exact ⟨b, off, _, _, e, hb, h1, by rw [hc _ l1, e1], by rw [Nat.add_assoc, hc _ l2, e2]⟩
theorem leafsOp : leafsOf Try.prog 5 61 0 = some [(3, 0), (3, 1)] := by kernel_rfl
theorem cellsOp : Try.prog.cellsOf 61 = 2 := by kernel_rfl
section
variable {H : Type} {enc : TypeId × Value → H} {w : World} {spare : Nat → Bool} {held : Bool}
theorem open_ops {m : Nat} {v : Value} {y : DataW H × List MemPlace} (h : DataW.trod enc Try.prog w 0 spare held m 47 [v] = some y) :
    ∃ A n c es, v = .slice A n c ∧ IsOps w w.heap.size A n es ∧ n ≤ c ∧ c ≤ maxLen := by
  obtain ⟨A, n, c, rows, e, hl, hr, hv, h1, h2⟩ := open_rows (size := 2) (fun cs => ∃ (k m : Int), cs = [.int .i64 k, .int .i64 m]) Try.underlying47 cellsOp (by omega)
    (fun n cs y h hcl => by
      have hlf := trod_leafs cs 5 61 0 _ n y leafsOp (by rw [cellsOp, List.drop_zero, List.take_of_length_le (by omega)]; exact h)
      match cs, hcl with
      | [a, b], _ =>
        obtain ⟨_, _, t0⟩ := hlf 3 0 (by simp)
        obtain ⟨_, _, t1⟩ := hlf 3 1 (by simp)
        simp only [List.drop_succ_cons, List.drop_zero, List.take_succ_cons, List.take_zero] at t0 t1
        obtain ⟨k, rfl, _⟩ := open_i64 t0
        obtain ⟨m, rfl, _⟩ := open_i64 t1
        exact ⟨k, m, rfl⟩) h
  have hb : ∃ es : List (Int × Int), es.length = rows.length ∧ rows.flatten = opsV es := by
    clear hl hv
    induction rows with
    | nil => exact ⟨[], rfl, rfl⟩
    | cons r rows ih =>
      obtain ⟨es, hes0, hes⟩ := ih (fun r hr' => hr r (by simp [hr']))
      obtain ⟨_, k, m, rfl⟩ := hr r (by simp)
      refine ⟨(k, m) :: es, by simp [hes0], ?_⟩
      rw [List.flatten_cons, hes]
      rfl
  obtain ⟨es, hes0, hes⟩ := hb
  exact ⟨A, n, c, es, e, ⟨by omega, hes ▸ hv⟩, h1, h2⟩
end
end Count
end Go.Proofs.Ytniieckjooahfaa
