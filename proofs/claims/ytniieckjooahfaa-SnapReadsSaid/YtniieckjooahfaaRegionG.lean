/- A drawn region whose calls turn rows of the call's own (XRegionF): two operations that may come up, append as a step. No condition. -/
import Derived.Test.YtniieckjooahfaaRegionF
import Derived.Test.YtniieckjooahfaaMem
namespace Go.Proofs.Ytniieckjooahfaa
open Go.RowKit
section
variable {P : Program} {Q : Exit → Act → World → Prop} {md : Region.Mode} {R : World → World → Prop}
/-- Numbers i and j alone may come up. -/
theorem wpF_two (i j : Nat) {L : List Oper} {oi oj : Oper} {ri rj : List Oper} {fuel : Nat} {listed : Array Bool} {a : Act} {w : World} (hi : L.drop i = oi :: ri) (hj : L.drop j = oj :: rj) (hrd : Region.ready md L.toArray listed = [i, j])
    (h1 : ∀ K : Act → World → Prop, (∀ a'' w'', R w w'' → wpF P md L.toArray Q R fuel (listed.setIfInBounds i true) a'' w'' → K a'' w'') →
      if Region.wanted oi (yielded L.toArray a.tmps) then oi.wp P a w K Q else K (a.put oi.dst undef) w)
    (h2 : ∀ K : Act → World → Prop, (∀ a'' w'', R w w'' → wpF P md L.toArray Q R fuel (listed.setIfInBounds j true) a'' w'' → K a'' w'') →
      if Region.wanted oj (yielded L.toArray a.tmps) then oj.wp P a w K Q else K (a.put oj.dst undef) w) : wpF P md L.toArray Q R (fuel + 1) listed a w := by
  refine ⟨fun h0 => (by rw [h0] at hrd; cases hrd), fun k hk => ?_⟩
  rw [hrd] at hk
  have hk' : k = i ∨ k = j := by simpa using hk
  rcases hk' with rfl | rfl
  · have h3 := h1 (fun a' w'' => R w w'' ∧ wpF P md L.toArray Q R fuel (listed.setIfInBounds k true) a' w'') (fun _ _ h2 h3 => ⟨h2, h3⟩)
    unfold wpOp
    simp only [at_drop hi]
    split
    · rename_i hw; rw [if_pos hw] at h3; exact .inl h3
    · rename_i hw; rw [if_neg hw] at h3; exact h3
  · have h3 := h2 (fun a' w'' => R w w'' ∧ wpF P md L.toArray Q R fuel (listed.setIfInBounds k true) a' w'') (fun _ _ h2 h3 => ⟨h2, h3⟩)
    unfold wpOp
    simp only [at_drop hj]
    split
    · rename_i hw; rw [if_pos hw] at h3; exact .inl h3
    · rename_i hw; rw [if_neg hw] at h3; exact h3
end
section
variable {Q : Exit → Act → World → Prop} {md : Region.Mode}
/-- append of a slice that reads onto a row of the call's own, as an operation. -/
theorem wp_src_bv {w : World} {o : Oper} {a : Act} {K : Act → World → Prop} (s x : Operand)
    (ho : o.op = .call { callee := .builtin .append, args := #[s, x], argTypes := #[35, 35] })
    (base : Nat) (v : Value) (xs ys : List UInt8) (A : Option Addr) (m c B : Nat) (hs : a.eval s = v) (hx : a.eval x = .slice A m c) (hown : OwnB w base v xs) (hr : IsB w B A m ys) (hbase : base ≤ w.heap.size) (hb : xs.length + m ≤ 1099511627776)
    (h : ∀ v' w', OwnB w' base v' (xs ++ ys) → Grew w v w' v' → K (a.put o.dst v') w') : o.wp Try.prog a w K Q := by
  obtain ⟨i, hi, hz, hsz, hby⟩ := info_parts info_u8
  have hm : ys.length = m := hr.1
  refine wp_append_isv w s x 35 ho base 5 i _ 1 1 Try.underlying35 hi hz hsz hby rfl (by omega) v xs.length (xs.map u8v) hs hown B A m c (ys.map u8v) hx hr.vals (u8v_one ys) (by unfold maxLen; omega) (by omega) hbase fun v' w' h1 h2 h3 => h v' w' ?_ ⟨h2, moved_mk' h3⟩
  unfold OwnB
  rw [List.map_append, List.length_append, hm]
  exact h1
/-- .. as the one step of a region that may come up. -/
theorem wpF_src (i : Nat) {L : List Oper} {o : Oper} {rest : List Oper} {fuel : Nat} {listed : Array Bool} {a : Act} {w : World} (hd : L.drop i = o :: rest) (hrd : Region.ready md L.toArray listed = [i]) (hgd : o.guard = none) (s x : Operand)
    (ho : o.op = .call { callee := .builtin .append, args := #[s, x], argTypes := #[35, 35] })
    (base : Nat) (v : Value) (xs ys : List UInt8) (A : Option Addr) (m c B : Nat) (hs : a.eval s = v) (hx : a.eval x = .slice A m c) (hown : OwnB w base v xs) (hr : IsB w B A m ys) (hbase : base ≤ w.heap.size) (hb : xs.length + m ≤ 1099511627776)
    (h : ∀ v' w', OwnB w' base v' (xs ++ ys) → Below base w w' → wpF Try.prog md L.toArray Q (Below base) fuel (listed.setIfInBounds i true) (a.put o.dst v') w') : wpF Try.prog md L.toArray Q (Below base) (fuel + 1) listed a w := by
  refine wpF_step i hd hrd fun K hK => ?_
  have hw : Region.wanted o (yielded L.toArray a.tmps) = true := by unfold Region.wanted; rw [hgd]
  rw [if_pos hw]
  refine wp_src_bv s x ho base v xs ys A m c B hs hx hown hr hbase hb fun v' w' h1 h2 => ?_
  exact hK _ _ (h2.below hown hbase) (h v' w' h1 (h2.below hown hbase))
end
/-- Worlds in which all but block g stays. -/
structure Grown (g : Nat) (w0 : World) where
  w : World
  hg : w0.grownBy w (some g)
instance grown_nonempty (g : Nat) (w0 : World) : Nonempty (Grown g w0) := ⟨⟨w0, grown_refl _ _⟩⟩
theorem grown_trans' {row : Option Nat} (a b c : World) (h : a.grownBy b row) (k : b.grownBy c row) : a.grownBy c row :=
  ⟨k.os.trans h.os, k.tape.trans h.tape, k.output.trans h.output, Nat.le_trans h.size k.size, fun i hi hne => (k.block i (Nat.lt_of_lt_of_le hi h.size) hne).trans (h.block i hi hne)⟩
theorem grown_of_below {w w' : World} {g : Nat} (hb : Below w.heap.size w w') : w.grownBy w' (some g) := ⟨hb.os, hb.tape, hb.output, hb.size, fun k hk _ => hb.block k hk⟩
/-- The relation: all but block g stays. -/
def GrownR (g : Nat) (a b : World) : Prop := a.grownBy b (some g)
section
variable {P : Program} {Q : Exit → Act → World → Prop} {md : Region.Mode}
theorem wpG_seg (g s k : Nat) {w : World} {L : List Oper} (hs : Region.noSelect L.toArray = true) (hQ : ∀ d v c a w, Q (.panic c) (Act.put a d v) w → Q (.panic c) a w) {fuel : Nat} {listed : Array Bool} {a : Act}
    (hl : Nat.ble (s + k) L.length = true) (hB : ordF md L.toArray (List.range' s k) listed = true) (h : wpQF P L.toArray (GrownR g) w (fun a' => wpF P md L.toArray Q (GrownR g) fuel (listAll (List.range' s k) listed) a' w) ((L.drop s).take k) a) :
    wpF P md L.toArray Q (GrownR g) (fuel + k) listed a w := wpF_seg (fun _ => grown_refl _ _) (fun a b c h k => grown_trans' a b c h k) s k hs hQ hl hB h
theorem wpQG_step {g : Nat} {ops : Array Oper} {w0 : World} {Q : Act → Prop} {a : Act} {o : Oper} {rest : List Oper}
    (h : ∀ K : Act → Prop, (∀ a, wpQF P ops (GrownR g) w0 Q rest a → K a) → if Region.wanted o (yielded ops a.tmps) then ∃ v, (∀ l : Grown g w0, quietIn P Eq l.w v ((execOp a.eval o).run P l.w)) ∧ K (a.put o.dst v) else K (a.put o.dst undef)) : wpQF P ops (GrownR g) w0 Q (o :: rest) a := by
  have h1 := h _ (fun _ h => h)
  unfold wpQF
  split at h1
  · obtain ⟨v, hv, hK⟩ := h1
    rw [if_pos (by assumption)]
    exact ⟨v, fun w hw => hv ⟨w, hw⟩, hK⟩
  · rw [if_neg (by assumption)]
    exact h1
end
end Go.Proofs.Ytniieckjooahfaa
