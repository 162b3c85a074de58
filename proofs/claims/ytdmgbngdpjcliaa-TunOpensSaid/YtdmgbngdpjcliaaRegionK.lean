/- A drawn region whose calls make memory, or turn one row of the call's own, beside loads of what stays (XRegionF): the relation of its worlds. No condition. -/
import Derived.Test.YtdmgbngdpjcliaaRegionG
namespace Go.Proofs.Ytdmgbngdpjcliaa
open Go.RowKit
/-- What lies below block number S stays, but for the row. -/
structure KeptR (S : Nat) (row : Option Nat) (a b : World) : Prop where
  os : b.os = a.os
  tape : b.tape = a.tape
  output : b.output = a.output
  size : a.heap.size ≤ b.heap.size
  block : ∀ k, k < S → some k ≠ row → b.heap[k]? = a.heap[k]?
theorem kept_refl (S : Nat) (row : Option Nat) (a : World) : KeptR S row a a := ⟨rfl, rfl, rfl, Nat.le_refl _, fun _ _ _ => rfl⟩
theorem kept_trans (S : Nat) (row : Option Nat) (a b c : World) (h : KeptR S row a b) (k : KeptR S row b c) : KeptR S row a c :=
  ⟨k.os.trans h.os, k.tape.trans h.tape, k.output.trans h.output, Nat.le_trans h.size k.size, fun i hi hne => (k.block i hi hne).trans (h.block i hi hne)⟩
theorem kept_of_below {S : Nat} {row : Option Nat} {B : Nat} {a b : World} (h : Below B a b) (hS : S ≤ B) : KeptR S row a b :=
  ⟨h.os, h.tape, h.output, h.size, fun k hk _ => h.block k (by omega)⟩
theorem kept_drew (S : Nat) (row : Option Nat) (a : World) : KeptR S row a a.drew := kept_of_below ((Below.refl S a).drew) (Nat.le_refl _)
theorem kept_of_grew {S : Nat} {row : Option Nat} {a b : World} {v v' : Value} (h : Grew a v b v') (hv : v.ownBlock = row ∨ ∃ k, v.ownBlock = some k ∧ S ≤ k) (hS : S ≤ a.heap.size) : KeptR S row a b :=
  ⟨h.grown.os, h.grown.tape, h.grown.output, h.grown.size, fun k hk hne => h.grown.block k (by omega) (by
    rcases hv with e | ⟨j, e, hj⟩
    · rw [e]; exact fun e' => hne e'
    · rw [e]; intro e'; cases e'; omega)⟩
theorem moved_row {S : Nat} {row : Option Nat} {a b : World} {v v' : Value} (h : Grew a v b v') (hv : v.ownBlock = row ∨ ∃ k, v.ownBlock = some k ∧ S ≤ k) (hS : S ≤ a.heap.size) : v'.ownBlock = row ∨ ∃ k, v'.ownBlock = some k ∧ S ≤ k := by
  rcases h.moved with e | ⟨k, e, hk⟩
  · rw [e]; exact hv
  · exact .inr ⟨k, e, by omega⟩
/-- Such a world. -/
structure KeptW (S : Nat) (row : Option Nat) (w0 : World) where
  w : World
  hk : KeptR S row w0 w
instance keptW_nonempty (S : Nat) (row : Option Nat) (w0 : World) : Nonempty (KeptW S row w0) := ⟨⟨w0, kept_refl _ _ _⟩⟩
theorem KeptW.blk {S : Nat} {row : Option Nat} {w0 : World} (l : KeptW S row w0) {k : Nat} {x : Option Obj} (h : w0.heap[k]? = x) (hk : k < S) (hne : some k ≠ row) : l.w.heap[k]? = x := (l.hk.block k hk hne).trans h
section
variable {P : Program} {Q : Exit → Act → World → Prop} {md : Region.Mode}
theorem wpK_seg (S : Nat) (row : Option Nat) (s k : Nat) {w : World} {L : List Oper} (hs : Region.noSelect L.toArray = true) (hQ : ∀ d v c a w, Q (.panic c) (Act.put a d v) w → Q (.panic c) a w) {fuel : Nat} {listed : Array Bool} {a : Act}
    (hl : Nat.ble (s + k) L.length = true) (hB : ordF md L.toArray (List.range' s k) listed = true) (h : wpQF P L.toArray (KeptR S row) w (fun a' => wpF P md L.toArray Q (KeptR S row) fuel (listAll (List.range' s k) listed) a' w) ((L.drop s).take k) a) :
    wpF P md L.toArray Q (KeptR S row) (fuel + k) listed a w := wpF_seg (kept_refl S row) (kept_trans S row) s k hs hQ hl hB h
theorem wpQK_step {S : Nat} {row : Option Nat} {ops : Array Oper} {w0 : World} {Q : Act → Prop} {a : Act} {o : Oper} {rest : List Oper}
    (h : ∀ K : Act → Prop, (∀ a, wpQF P ops (KeptR S row) w0 Q rest a → K a) → if Region.wanted o (yielded ops a.tmps) then ∃ v, (∀ l : KeptW S row w0, quietIn P Eq l.w v ((execOp a.eval o).run P l.w)) ∧ K (a.put o.dst v) else K (a.put o.dst undef)) : wpQF P ops (KeptR S row) w0 Q (o :: rest) a := by
  have h1 := h _ (fun _ h => h)
  unfold wpQF
  split at h1
  · obtain ⟨v, hv, hK⟩ := h1
    rw [if_pos (by assumption)]
    exact ⟨v, fun w hw => hv ⟨w, hw⟩, hK⟩
  · rw [if_neg (by assumption)]
    exact h1
theorem wp_region_K {id : Nat} {a : Act} {w : World} {l : List Oper} (S : Nat) (row : Option Nat) (hm : P.follows .mixedOrders = true)
    (h : wpF P .any l.toArray Q (KeptR S row) l.length (Array.replicate l.length false) a w.drew) : (Code.region id l.toArray true).wp P Q a w := wp_region_F (KeptR S row) hm h
end
section
variable {Q : Exit → Act → World → Prop} {md : Region.Mode}
/-- append onto the row, as the one step that may come up. -/
theorem wpK_src {S : Nat} {row : Option Nat} (i : Nat) {L : List Oper} {o : Oper} {rest : List Oper} {fuel : Nat} {listed : Array Bool} {a : Act} {w : World} (hd : L.drop i = o :: rest) (hrd : Region.ready md L.toArray listed = [i]) (hgd : o.guard = none) (s x : Operand)
    (ho : o.op = .call { callee := .builtin .append, args := #[s, x], argTypes := #[22, 22] })
    (base : Nat) (v : Value) (xs ys : List UInt8) (A : Option Addr) (m c B : Nat) (hs : a.eval s = v) (hx : a.eval x = .slice A m c) (hown : OwnB w base v xs) (hr : IsB w B A m ys) (hbase : base ≤ w.heap.size) (hb : xs.length + m ≤ 1099511627776)
    (hv : v.ownBlock = row ∨ ∃ k, v.ownBlock = some k ∧ S ≤ k) (hS : S ≤ w.heap.size)
    (h : ∀ v' w', OwnB w' base v' (xs ++ ys) → Grew w v w' v' → wpF Try.prog md L.toArray Q (KeptR S row) fuel (listed.setIfInBounds i true) (a.put o.dst v') w') : wpF Try.prog md L.toArray Q (KeptR S row) (fuel + 1) listed a w := by
  refine wpF_step i hd hrd fun K hK => ?_
  have hw : Region.wanted o (yielded L.toArray a.tmps) = true := by unfold Region.wanted; rw [hgd]
  rw [if_pos hw]
  exact wp_src_bv s x ho base v xs ys A m c B hs hx hown hr hbase hb fun v' w' h1 h2 => hK _ _ (kept_of_grew h2 hv hS) (h v' w' h1 h2)
end
end Go.Proofs.Ytdmgbngdpjcliaa
