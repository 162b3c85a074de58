/- A drawn region that stores into some blocks beside loads of others (XRegionF): the relation of its worlds. No condition. -/
import Derived.Test.YtniieckjooahfaaRegionG
namespace Go.Proofs.Ytniieckjooahfaa
open Go.RowKit
/-- What lies below block number S stays, but for some blocks. -/
structure KeptS (S : Nat) (P : Nat → Prop) (a b : World) : Prop where
  os : b.os = a.os
  tape : b.tape = a.tape
  output : b.output = a.output
  size : a.heap.size ≤ b.heap.size
  block : ∀ k, k < S → ¬ P k → b.heap[k]? = a.heap[k]?
theorem keptS_refl (S : Nat) (P : Nat → Prop) (a : World) : KeptS S P a a := ⟨rfl, rfl, rfl, Nat.le_refl _, fun _ _ _ => rfl⟩
theorem keptS_trans (S : Nat) (P : Nat → Prop) (a b c : World) (h : KeptS S P a b) (k : KeptS S P b c) : KeptS S P a c :=
  ⟨k.os.trans h.os, k.tape.trans h.tape, k.output.trans h.output, Nat.le_trans h.size k.size, fun i hi hne => (k.block i hi hne).trans (h.block i hi hne)⟩
theorem keptS_of_below {S : Nat} {P : Nat → Prop} {B : Nat} {a b : World} (h : Below B a b) (hS : S ≤ B) : KeptS S P a b :=
  ⟨h.os, h.tape, h.output, h.size, fun k hk _ => h.block k (by omega)⟩
theorem keptS_set {S : Nat} {P : Nat → Prop} {a b : World} (h : KeptS S P a b) {p : Addr} (hp : P p.block) (u : Value) : KeptS S P a (b.setCell p u) :=
  ⟨h.os, h.tape, h.output, by simpa [World.setCell] using h.size, fun k hk hne => (Below.heap_setCell b p u k (fun e => hne (e ▸ hp))).trans (h.block k hk hne)⟩
/-- Such a world. -/
structure KeptSW (S : Nat) (P : Nat → Prop) (w0 : World) where
  w : World
  hk : KeptS S P w0 w
instance keptSW_nonempty (S : Nat) (P : Nat → Prop) (w0 : World) : Nonempty (KeptSW S P w0) := ⟨⟨w0, keptS_refl _ _ _⟩⟩
theorem KeptSW.blk {S : Nat} {P : Nat → Prop} {w0 : World} (l : KeptSW S P w0) {k : Nat} {x : Option Obj} (h : w0.heap[k]? = x) (hk : k < S) (hne : ¬ P k) : l.w.heap[k]? = x := (l.hk.block k hk hne).trans h
/-- A cell of an old block, where nothing below S turns. -/
theorem KeptSW.cellOf {w wd : World} {a : Addr} {v : Value} (l : KeptSW w.heap.size (fun _ => False) wd) (h : w.cell? a = some v) (hb : Below w.heap.size w wd) : l.w.cell? a = some v := by
  have hlt := World.block_lt_of_cell? w a h
  refine (World.cell?_of_block ?_).trans h
  exact (l.hk.block _ hlt id).trans (hb.block _ hlt)
section
variable {P : Program} {Q : Exit → Act → World → Prop} {md : Region.Mode}
theorem wpS_seg (S : Nat) (B : Nat → Prop) (s k : Nat) {w : World} {L : List Oper} (hs : Region.noSelect L.toArray = true) (hQ : ∀ d v c a w, Q (.panic c) (Act.put a d v) w → Q (.panic c) a w) {fuel : Nat} {listed : Array Bool} {a : Act}
    (hl : Nat.ble (s + k) L.length = true) (hB : ordF md L.toArray (List.range' s k) listed = true) (h : wpQF P L.toArray (KeptS S B) w (fun a' => wpF P md L.toArray Q (KeptS S B) fuel (listAll (List.range' s k) listed) a' w) ((L.drop s).take k) a) :
    wpF P md L.toArray Q (KeptS S B) (fuel + k) listed a w := wpF_seg (keptS_refl S B) (keptS_trans S B) s k hs hQ hl hB h
theorem wpQS_step {S : Nat} {B : Nat → Prop} {ops : Array Oper} {w0 : World} {Q : Act → Prop} {a : Act} {o : Oper} {rest : List Oper}
    (h : ∀ K : Act → Prop, (∀ a, wpQF P ops (KeptS S B) w0 Q rest a → K a) → if Region.wanted o (yielded ops a.tmps) then ∃ v, (∀ l : KeptSW S B w0, quietIn P Eq l.w v ((execOp a.eval o).run P l.w)) ∧ K (a.put o.dst v) else K (a.put o.dst undef)) : wpQF P ops (KeptS S B) w0 Q (o :: rest) a := by
  have h1 := h _ (fun _ h => h)
  unfold wpQF
  split at h1
  · obtain ⟨v, hv, hK⟩ := h1
    rw [if_pos (by assumption)]
    exact ⟨v, fun w hw => hv ⟨w, hw⟩, hK⟩
  · rw [if_neg (by assumption)]
    exact h1
theorem wp_region_S {id : Nat} {a : Act} {w : World} {l : List Oper} (S : Nat) (B : Nat → Prop) (hm : P.follows .mixedOrders = true)
    (h : ∀ wd, Below w.heap.size w wd → wpF P .any l.toArray Q (KeptS S B) l.length (Array.replicate l.length false) a wd) : (Code.region id l.toArray true).wp P Q a w := wp_region_F (KeptS S B) hm (h _ (Below.refl _ _).drew)
end
theorem set3 {w : World} {g : Nat} {t : TypeId} {a0 a1 a2 : Value} (h : w.heap[g]? = some (.cells #[a0, a1, a2] t (0, 0))) (v0 v1 v2 : Value) :
    ∃ w', (((w.setCell ⟨g, 0, none⟩ v0).setCell ⟨g, 1, none⟩ v1).setCell ⟨g, 2, none⟩ v2) = w' ∧ w'.heap[g]? = some (.cells #[v0, v1, v2] t (0, 0)) ∧ w.grownBy w' (some g) := by
  refine ⟨_, rfl, ?_, ?_⟩
  · simpa using (blk_set (blk_set (blk_set h 0 v0) 1 v1) 2 v2)
  · iterate 3 refine grown_set ?_ rfl _
    exact grown_refl _ _
/-- Bytes stay when an address is written. -/
theorem isB_addr {w w' : World} {g B n : Nat} {A : Option Addr} {xs : List UInt8} {t : TypeId} {p : Bool} {q r : Int} (h : IsB w B A n xs) (hg : w.grownBy w' (some g)) (hB : B ≤ w.heap.size) (h0 : w.heap[g]? = some (.cells #[.bool p, .int .u64 q, .int .u64 r] t (0, 0))) : IsB w' B A n xs := by
  refine ⟨h.1, fun hn => ?_⟩
  obtain ⟨b, off, e, hb, hc⟩ := h.2 hn
  refine ⟨b, off, e, hb, fun i hi => ?_⟩
  have hne : b ≠ g := by
    rintro rfl
    have h1 := hc i hi
    rw [blk_cell h0 (off + i)] at h1
    rcases hk : off + i with _ | _ | _ | k <;> rw [hk] at h1 <;> simp [u8v] at h1
  rw [← hc i hi]
  exact World.cell?_of_block (hg.block b (Nat.lt_of_lt_of_le hb hB) (by simpa using hne))
theorem grown_other {w w' : World} {g k : Nat} {x : Option Obj} (h : w.grownBy w' (some g)) (hk : k < w.heap.size) (hne : k ≠ g) (hx : w.heap[k]? = x) : w'.heap[k]? = x := (h.block k hk (by simpa using hne)).trans hx
theorem below_grown {w w' : World} {g B : Nat} (h : w.grownBy w' (some g)) (hB : B ≤ w.heap.size) (hg : B ≤ g) : Below B w w' := below_of_grown h hB (by intro k hk; cases hk; exact hg)
end Go.Proofs.Ytniieckjooahfaa
