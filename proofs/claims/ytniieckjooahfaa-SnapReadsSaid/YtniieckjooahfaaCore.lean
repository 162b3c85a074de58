/- Words that every text of this seat's proofs uses: hiding a fact, a world with more in it, a region that draws its order and whose callees only make memory, a struct argument opened to its cells. No condition. -/
import Derived.WalkKit
import Derived.WalkLawsBesides
import Derived.ProofKit
import Derived.OpenShut
import Derived.ShutString
import Derived.ChangeOld
import Derived.Outline
import Derived.BigQuiet
import Derived.Deep.QuietTactic
import Derived.Deep.Slices
import Derived.Below
namespace Go.Proofs.Ytniieckjooahfaa
open Go.RowKit Go.ChangeShapes Go.WideShapes Go.ChangeAt Go.Deep

theorem hide {p : Prop} (h : p) : Hid p := h

/-! ### A world that is w0 with more in it -/
structure Later (w0 : World) where
  w : World
  hb : Below w0.heap.size w0 w
instance later_nonempty (w0 : World) : Nonempty (Later w0) := ⟨⟨w0, Below.refl _ _⟩⟩
theorem later_drew (w0 : World) : ∃ l : Later w0, { w0 with drawn := w0.drawn + 1 } = l.w := ⟨⟨w0.drew, (Below.refl _ _).drew⟩, rfl⟩
theorem Later.step {w0 w' : World} (l : Later w0) (h : Below l.w.heap.size l.w w') : ∃ l' : Later w0, w' = l'.w := ⟨⟨w', l.hb.trans (h.mono l.hb.size)⟩, rfl⟩
theorem Later.same {w0 w' : World} (l : Later w0) (h : l.w = w') : ∃ l' : Later w0, w' = l'.w := ⟨l, h.symm⟩
theorem Later.cell {w0 : World} (l : Later w0) {a : Addr} {v : Value} (h : w0.cell? a = some v) : l.w.cell? a = some v := (l.hb.cell (World.block_lt_of_cell? w0 a h)).trans h
theorem Later.size {w0 : World} (l : Later w0) : w0.heap.size ≤ l.w.heap.size := l.hb.size
theorem wp_region_later {P : Program} {id : Nat} {Q : Exit → Act → World → Prop} {a : Act} {w : World} {l : List Oper} (hm : P.follows .mixedOrders = true) (hB : Region.lexB .any l.toArray = true)
    (h : wpQuiet P l.toArray (fun w' => ∃ x : Later w, w' = x.w) (fun a' => ∀ x : Later w, Q .normal a' x.w) l a) : (Code.region id l.toArray true).wp P Q a w := by
  refine wp_region_quiet (C := fun w' => ∃ x : Later w, w' = x.w) hm hB (later_drew w) ?_
  have e : (fun a' => ∀ w', (∃ x : Later w, w' = x.w) → Q .normal a' w') = (fun a' => ∀ x : Later w, Q .normal a' x.w) := by
    funext a'
    exact propext ⟨fun h x => h _ ⟨x, rfl⟩, fun h w' ⟨x, hx⟩ => hx ▸ h x⟩
  rw [e]
  simpa using h

/-! ### A block that is known whole -/
theorem blk_cell {w : World} {g : Nat} {t : TypeId} {cs : Array Value} (h : w.heap[g]? = some (.cells cs t (0, 0))) (i : Nat) : w.cell? ⟨g, i, none⟩ = cs[i]? := cell_of_row w g i cs t (0, 0) h
theorem blk_free {w : World} {g : Nat} {t : TypeId} {cs : Array Value} (h : w.heap[g]? = some (.cells cs t (0, 0))) (i : Nat) : w.frozen? ⟨g, i, none⟩ = false := by simp [World.frozen?, h]
theorem blk_set {w : World} {g : Nat} {t : TypeId} {cs : Array Value} (h : w.heap[g]? = some (.cells cs t (0, 0))) (i : Nat) (u : Value) : (w.setCell ⟨g, i, none⟩ u).heap[g]? = some (.cells (cs.setIfInBounds i u) t (0, 0)) := by
  simp [World.setCell, Array.getElem?_modify, h]
theorem blk_new (w : World) (t : TypeId) (cs : Array Value) : (w.alloc (.cells cs t)).heap[w.heap.size]? = some (.cells cs t (0, 0)) := heap_alloc_new w _
theorem blk_old {w : World} {g : Nat} {x : Option Obj} (o : Obj) (hg : g < w.heap.size) (h : w.heap[g]? = x) : (w.alloc o).heap[g]? = x := (Below.heap_alloc w o g hg).trans h
theorem blk_below {w w' : World} {B g : Nat} {x : Option Obj} (hb : Below B w w') (hg : g < B) (h : w.heap[g]? = x) : w'.heap[g]? = x := (hb.block g hg).trans h
theorem below_mk {B : Nat} {a b c : World} (h : Below B a b) (hB : B ≤ b.heap.size) (k : Below b.heap.size b c) : Below B a c := h.trans (k.mono hB)

/-! ### A struct argument opened to its cells, whatever its fields' fields -/
def leafsOf (P : Program) : Nat → TypeId → Nat → Option (List (TypeId × Nat))
  | 0, _, _ => none
  | n + 1, t, off =>
    match P.underlying t with
    | some (.struct fs) => (fs.toList.mapM fun f => if f.offset + P.cellsOf f.type ≤ P.cellsOf t then leafsOf P n f.type (off + f.offset) else none).map List.flatten
    | some (.array k e) => ((List.range k).mapM fun i => if i * P.cellsOf e + P.cellsOf e ≤ P.cellsOf t then leafsOf P n e (off + i * P.cellsOf e) else none).map List.flatten
    | _ => if P.cellsOf t = 1 then some [(t, off)] else none

section
variable {H : Type} {enc : TypeId × Value → H} {P : Program} {w : World} {base : Nat} {spare : Nat → Bool} {held : Bool}

theorem cut_cut {α : Type} (CS : List α) (off size o c : Nat) (h : o + c ≤ size) : (((CS.drop off).take size).drop o).take c = (CS.drop (off + o)).take c := by
  rw [List.drop_take, List.take_take, List.drop_drop, Nat.min_eq_left (by omega)]

theorem trod_leafs (CS : List Value) : ∀ (n : Nat) (t : TypeId) (off : Nat) (ls : List (TypeId × Nat)) (fuel : Nat) (x : DataW H × List MemPlace), leafsOf P n t off = some ls →
    DataW.trod enc P w base spare held fuel t ((CS.drop off).take (P.cellsOf t)) = some x →
    ∀ u i, (u, i) ∈ ls → ∃ m y, DataW.trod enc P w base spare held m u ((CS.drop i).take 1) = some y
  | 0, _, _, _, _, _, h, _ => by simp [leafsOf] at h
  | n + 1, t, off, ls, fuel, x, h, ht => by
    intro u i hmem
    unfold leafsOf at h
    split at h
    · rename_i fs hu
      obtain ⟨ll, hll, rfl⟩ := Option.map_eq_some_iff.1 h
      obtain ⟨xs, n', _, _, _, hxl, hf⟩ := DataW.trod_struct hu ht
      obtain ⟨l, hl, hil⟩ := List.mem_flatten.1 hmem
      obtain ⟨j, hj, rfl⟩ := List.getElem_of_mem hl
      have hlen : ll.length = fs.size := (mapM_some_length hll).trans (by simp)
      have hjf : j < fs.size := by omega
      have hfj : fs[j]? = some fs[j] := Array.getElem?_eq_getElem hjf
      have hg := mapM_some_get hll j fs[j] (by simp)
      rw [List.getElem?_eq_getElem hj] at hg
      split at hg
      · rename_i hle
        have h1 := hf j fs[j] hfj
        rw [List.getElem?_eq_getElem (by omega), cut_cut _ _ _ _ _ hle] at h1
        exact trod_leafs CS n _ _ _ _ _ hg h1 u i hil
      · cases hg
    · rename_i k e hu
      obtain ⟨ll, hll, rfl⟩ := Option.map_eq_some_iff.1 h
      obtain ⟨l, hl, hil⟩ := List.mem_flatten.1 hmem
      obtain ⟨j, hj, rfl⟩ := List.getElem_of_mem hl
      have hlen : ll.length = k := (mapM_some_length hll).trans (by simp)
      have hg := mapM_some_get hll j j (by rw [List.getElem?_range (by omega)])
      rw [List.getElem?_eq_getElem hj] at hg
      split at hg
      · rename_i hle
        obtain ⟨xs, n', _, _, _, hxl, hf⟩ := DataW.trod_array hu ht
        have h1 := hf j (by omega)
        rw [List.getElem?_eq_getElem (by omega), cut_cut _ _ _ _ _ hle] at h1
        exact trod_leafs CS n _ _ _ _ _ hg h1 u i hil
      · cases hg
    · split at h
      · rename_i hc
        cases h
        simp only [List.mem_singleton, Prod.mk.injEq] at hmem
        obtain ⟨rfl, rfl⟩ := hmem
        rw [hc] at ht
        exact ⟨_, _, ht⟩
      · cases h

/-- A struct value opened: its cells, and each leaf cell's own reading. -/
theorem open_leafs {r : Reach} {b0 : Nat} {t : TypeId} {fs : Array Field} {v : Value} {d : DataW H} {p : List MemPlace} {n : Nat} {ls : List (TypeId × Nat)} (hs : P.underlying t = some (.struct fs)) (hl : leafsOf P n t 0 = some ls)
    (hv : Value.okWide P w r b0 t v) (h : DataW.Trod enc P w base spare held t v d p) :
    ∃ cs : List Value, v = .agg cs.toArray ∧ cs.length = P.cellsOf t ∧ ∀ u i, (u, i) ∈ ls → ∃ m y, DataW.trod enc P w base spare held m u ((cs.drop i).take 1) = some y := by
  obtain ⟨cs, rfl, hsz⟩ := okWide_struct hs hv
  obtain ⟨fuel, hf⟩ := h
  refine ⟨cs.toList, by simp, by simpa using hsz, fun u i hm => ?_⟩
  refine trod_leafs cs.toList n t 0 ls fuel (d, p) hl ?_ u i hm
  · rw [List.drop_zero, ← hsz, ← Array.length_toList, List.take_length]
    exact hf
end
end Go.Proofs.Ytniieckjooahfaa
