/- A row of the call's own stays when a block below it is written; a struct's cells, stored one by one. No condition. -/
import Derived.Test.YtniieckjooahfaaMem
namespace Go.Proofs.Ytniieckjooahfaa
open Go.RowKit Go.ChangeShapes Go.WideShapes Go.ChangeAt Go.Deep
theorem owns_not {w : World} {base : Nat} {v : Value} {e : TypeId} {size n : Nat} {xs : List Value} (h : w.ownsRow base e size v n xs) {g : Nat} (hg : g < base) : v.ownBlock = none ∨ v.ownBlock ≠ some g := by
  rcases hob : v.ownBlock with _ | k
  · exact .inl rfl
  · right
    intro e
    have h1 := (World.ownsRow.lt h k hob).1
    cases e
    omega
theorem OwnB.away {w w' : World} {base g : Nat} {v : Value} {xs : List UInt8} (h : OwnB w base v xs) (hg : w.grownBy w' (some g)) (hb : g < base) : OwnB w' base v xs := h.kept hg (owns_not h hb)
theorem store_cell {w : World} {g : Nat} {t : TypeId} {cs : Array Value} (h : w.heap[g]? = some (.cells cs t (0, 0))) (i : Nat) (v : Value) :
    ∃ w', w.setCell ⟨g, i, none⟩ v = w' ∧ w'.heap[g]? = some (.cells (cs.setIfInBounds i v) t (0, 0)) ∧ w.grownBy w' (some g) :=
  ⟨_, rfl, blk_set h i v, grown_set (grown_refl _ _) rfl _⟩
theorem rows_apart {w : World} {base base' : Nat} {v u : Value} {e e' : TypeId} {size n size' n' : Nat} {xs xs' : List Value} (h : w.ownsRow base e size v n xs) (h' : w.ownsRow base' e' size' u n' xs') (hne : e ≠ e') : v.ownBlock = none ∨ v.ownBlock ≠ u.ownBlock := by
  rcases h.2 with ⟨rfl, _⟩ | ⟨g, cap, cur, rfl, hg, hh, _⟩
  · exact .inl rfl
  · rcases h'.2 with ⟨rfl, _⟩ | ⟨g', cap', cur', rfl, hg', hh', _⟩
    · exact .inr (by intro e; cases e)
    · right
      intro e
      have : g = g' := by simpa [Value.ownBlock] using e
      subst this
      rw [hh] at hh'
      simp at hh'
      exact hne hh'.2
theorem row_weaken {w : World} {base base' : Nat} {v : Value} {e : TypeId} {size n : Nat} {xs : List Value} (h : w.ownsRow base e size v n xs) (hb : base' ≤ base) : w.ownsRow base' e size v n xs :=
  ⟨h.1, h.2.imp id fun ⟨g, cap, cur, h1, h2, h3⟩ => ⟨g, cap, cur, h1, Nat.le_trans hb h2, h3⟩⟩
theorem row_on {w w' : World} {base : Nat} {v : Value} {e : TypeId} {size n : Nat} {xs : List Value} (h : w.ownsRow base e size v n xs) (hb : Below w.heap.size w w') : w'.ownsRow base e size v n xs :=
  World.ownsRow.kept h ⟨hb.os, hb.tape, hb.output, hb.size, fun k hk _ => hb.block k hk⟩ (row := none) (by cases v.ownBlock <;> simp)
theorem row_away {w w' : World} {base g : Nat} {v : Value} {e : TypeId} {size n : Nat} {xs : List Value} (h : w.ownsRow base e size v n xs) (hg : w.grownBy w' (some g)) (hb : g < base) : w'.ownsRow base e size v n xs := World.ownsRow.kept h hg (owns_not h hb)
theorem grownBy_far {a b c : World} {g s : Nat} (h : a.grownBy b (some g)) (k : b.grownBy c (some s)) (hs : a.heap.size ≤ s) : a.grownBy c (some g) :=
  ⟨k.os.trans h.os, k.tape.trans h.tape, k.output.trans h.output, Nat.le_trans h.size k.size, fun i hi hne => (k.block i (Nat.lt_of_lt_of_le hi h.size) (fun e => by cases e; omega)).trans (h.block i hi hne)⟩
theorem grownBy_of {a b : World} {g : Nat} (h : Below a.heap.size a b) : a.grownBy b (some g) := ⟨h.os, h.tape, h.output, h.size, fun i hi _ => h.block i hi⟩
/-- A block that is not the row's stays, and stays apart from it. -/
theorem Grew.box {w w' : World} {v v' : Value} {g : Nat} {x : Obj} (h : Grew w v w' v') (hx : w.heap[g]? = some x) (hv : v.ownBlock ≠ some g) : w'.heap[g]? = some x ∧ v'.ownBlock ≠ some g := by
  have hlt : g < w.heap.size := by
    rcases Nat.lt_or_ge g w.heap.size with h1 | h1
    · exact h1
    · rw [Array.getElem?_eq_none h1] at hx; cases hx
  refine ⟨(h.grown.block g hlt (fun e => hv (by first | exact e | exact e.symm))).trans hx, ?_⟩
  rcases h.moved with e | ⟨k, e, hk⟩
  · rw [e]; exact hv
  · rw [e]; intro e'; cases e'; omega
theorem OwnB.off {w : World} {base g : Nat} {v : Value} {xs : List UInt8} (h : OwnB w base v xs) (hg : w.heap.size ≤ g) : v.ownBlock ≠ some g := fun e => by
  have := (h.lt g e).2
  omega
section
variable {w : World} {g : Nat} {t : TypeId} {a0 a1 a2 a3 a4 a5 : Value}
theorem set6at0 (h : w.heap[g]? = some (.cells #[a0, a1, a2, a3, a4, a5] t (0, 0))) (v : Value) : ∃ w', w.setCell ⟨g, 0, none⟩ v = w' ∧ w'.heap[g]? = some (.cells #[v, a1, a2, a3, a4, a5] t (0, 0)) ∧ w.grownBy w' (some g) := store_cell h 0 v
theorem set6at1 (h : w.heap[g]? = some (.cells #[a0, a1, a2, a3, a4, a5] t (0, 0))) (v : Value) : ∃ w', w.setCell ⟨g, 1, none⟩ v = w' ∧ w'.heap[g]? = some (.cells #[a0, v, a2, a3, a4, a5] t (0, 0)) ∧ w.grownBy w' (some g) := store_cell h 1 v
theorem set6at2 (h : w.heap[g]? = some (.cells #[a0, a1, a2, a3, a4, a5] t (0, 0))) (v : Value) : ∃ w', w.setCell ⟨g, 2, none⟩ v = w' ∧ w'.heap[g]? = some (.cells #[a0, a1, v, a3, a4, a5] t (0, 0)) ∧ w.grownBy w' (some g) := store_cell h 2 v
theorem set6at3 (h : w.heap[g]? = some (.cells #[a0, a1, a2, a3, a4, a5] t (0, 0))) (v : Value) : ∃ w', w.setCell ⟨g, 3, none⟩ v = w' ∧ w'.heap[g]? = some (.cells #[a0, a1, a2, v, a4, a5] t (0, 0)) ∧ w.grownBy w' (some g) := store_cell h 3 v
theorem set6at4 (h : w.heap[g]? = some (.cells #[a0, a1, a2, a3, a4, a5] t (0, 0))) (v : Value) : ∃ w', w.setCell ⟨g, 4, none⟩ v = w' ∧ w'.heap[g]? = some (.cells #[a0, a1, a2, a3, v, a5] t (0, 0)) ∧ w.grownBy w' (some g) := store_cell h 4 v
theorem set6at5 (h : w.heap[g]? = some (.cells #[a0, a1, a2, a3, a4, a5] t (0, 0))) (v : Value) : ∃ w', w.setCell ⟨g, 5, none⟩ v = w' ∧ w'.heap[g]? = some (.cells #[a0, a1, a2, a3, a4, v] t (0, 0)) ∧ w.grownBy w' (some g) := store_cell h 5 v
theorem set6all (h : w.heap[g]? = some (.cells #[a0, a1, a2, a3, a4, a5] t (0, 0))) (v0 v1 v2 v3 v4 v5 : Value) : ∃ w', ((((((w.setCell ⟨g, 0, none⟩ v0).setCell ⟨g, 1, none⟩ v1).setCell ⟨g, 2, none⟩ v2).setCell ⟨g, 3, none⟩ v3).setCell ⟨g, 4, none⟩ v4).setCell ⟨g, 5, none⟩ v5) = w' ∧ w'.heap[g]? = some (.cells #[v0, v1, v2, v3, v4, v5] t (0, 0)) ∧ w.grownBy w' (some g) := by
  refine ⟨_, rfl, ?_, ?_⟩
  · exact blk_set (blk_set (blk_set (blk_set (blk_set (blk_set h 0 v0) 1 v1) 2 v2) 3 v3) 4 v4) 5 v5
  · iterate 6 refine grown_set ?_ rfl _
    exact grown_refl _ _
end
end Go.Proofs.Ytniieckjooahfaa
