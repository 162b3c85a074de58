/- append of bytes, and of a string's bytes, onto a row of the call's own: as an operation, in a walk and in a drawn region. Conditions: sizes below 2^40. -/
import Derived.Test.YtniieckjooahfaaClone
import Derived.Test.YtniieckjooahfaaRegionS
import Derived.Lib.AppendStr
import Derived.ArgAppend
import Derived.Lib.SlBytesConst
namespace Go.Proofs.Ytniieckjooahfaa
open Go.RowKit Go.ChangeShapes Go.WideShapes Go.ChangeAt Go.Deep
theorem strCells_str (s : List UInt8) : Lib.strCells (str s) = s.map u8v := by
  unfold Lib.strCells str u8v
  rfl
section
variable {w : World} {ops : Array Oper} {rest : List Oper} {o : Oper} {a : Act} {Q : Exit → Act → World → Prop} {K : Act → World → Prop} {md : Region.Mode}
theorem wp_app_b (s x : Operand)
    (ho : o.op = .call { callee := .builtin .append, args := #[s, x], argTypes := #[35, 35] })
    (base : Nat) (v : Value) (xs ys : List UInt8) (A : Option Addr) (m c B : Nat) (hs : a.eval s = v) (hx : a.eval x = .slice A m c) (hown : OwnB w base v xs) (hr : IsB w B A m ys) (hbase : base ≤ w.heap.size) (hb : xs.length + m ≤ 1099511627776)
    (h : ∀ v' w', OwnB w' base v' (xs ++ ys) → Grew w v w' v' → K (a.put o.dst v') w') : o.wp Try.prog a w K Q := by
  obtain ⟨i, hi, hz, hsz, hby⟩ := info_parts info_u8
  have hm : ys.length = m := hr.1
  refine wp_append_isv w s x 35 ho base 5 i _ 1 1 Try.underlying35 hi hz hsz hby rfl (by omega) v xs.length (xs.map u8v) hs hown B A m c (ys.map u8v) hx hr.vals (u8v_one ys) (by unfold maxLen; omega) (by omega) hbase fun v' w' h1 h2 h3 => h v' w' ?_ ⟨h2, moved_mk' h3⟩
  unfold OwnB
  rw [List.map_append, List.length_append, hm]
  exact h1
theorem wp_app_s (s x : Operand)
    (ho : o.op = .call { callee := .builtin .append, args := #[s, x], argTypes := #[35, 9] })
    (base : Nat) (v : Value) (xs ys : List UInt8) (hs : a.eval s = v) (hx : a.eval x = .string (str ys)) (hown : OwnB w base v xs) (hbase : base ≤ w.heap.size) (hb : xs.length + ys.length ≤ 1099511627776)
    (h : ∀ v' w', OwnB w' base v' (xs ++ ys) → w.grownBy w' v.ownBlock → K (a.put o.dst v') w') : o.wp Try.prog a w K Q := by
  obtain ⟨i, hi, hz, hsz, hby⟩ := info_parts info_u8
  have hyl : (str ys).size = ys.length := List.size_toArray
  obtain ⟨v', w', hr, h2, h3, _⟩ := Lib.run_append_own_string (P := Try.prog) (w := w) base 35 9 o.type 5 i Try.underlying35 Try.underlying9 hi hz hsz hby v xs.length (xs.map u8v) hown (str ys) (by rw [hyl]; unfold maxLen; omega) (by rw [hyl]; omega) hbase
  unfold Oper.wp execOp
  simp only [ho, resolve, invoke, builtin, Sem.run_bind, Sem.run_pure, Result.andThen_ok, List.map_toArray, List.map_cons, List.map_nil, hs, hx, hr]
  refine h v' w' ?_ h3
  unfold OwnB
  rw [List.map_append, List.length_append, ← hyl, ← strCells_str]
  exact h2
theorem wpl_app_s (hgd : o.guard = none) (s x : Operand)
    (ho : o.op = .call { callee := .builtin .append, args := #[s, x], argTypes := #[35, 9] })
    (base : Nat) (v : Value) (xs ys : List UInt8) (hs : a.eval s = v) (hx : a.eval x = .string (str ys)) (hown : OwnB w base v xs) (hbase : base ≤ w.heap.size) (hb : xs.length + ys.length ≤ 1099511627776)
    (h : ∀ v' w', OwnB w' base v' (xs ++ ys) → w.grownBy w' v.ownBlock → wpList Try.prog ops Q rest (a.put o.dst v') w') : wpList Try.prog ops Q (o :: rest) a w :=
  wpList_plain hgd fun _ hK => wp_app_s s x ho base v xs ys hs hx hown hbase hb fun v' w' h1 h2 => hK _ _ (h v' w' h1 h2)
theorem wpT_app_b (i : Nat) {L : List Oper} {fuel : Nat} {listed : Array Bool} (hd : L.drop i = o :: rest) (hrd : Region.ready md L.toArray listed = [i]) (hgd : o.guard = none) (s x : Operand)
    (ho : o.op = .call { callee := .builtin .append, args := #[s, x], argTypes := #[35, 35] })
    (base : Nat) (v : Value) (xs ys : List UInt8) (A : Option Addr) (m c B : Nat) (hs : a.eval s = v) (hx : a.eval x = .slice A m c) (hown : OwnB w base v xs) (hr : IsB w B A m ys) (hbase : base ≤ w.heap.size) (hb : xs.length + m ≤ 1099511627776)
    (h : ∀ v' w', OwnB w' base v' (xs ++ ys) → Grew w v w' v' → wpAny Try.prog md L.toArray Q fuel (listed.setIfInBounds i true) (a.put o.dst v') w') : wpAny Try.prog md L.toArray Q (fuel + 1) listed a w := by
  refine wpT_step i hd hrd fun K hK => ?_
  rw [if_pos (by unfold Region.wanted; rw [hgd])]
  exact wp_app_b s x ho base v xs ys A m c B hs hx hown hr hbase hb fun v' w' h1 h2 => hK _ _ (h v' w' h1 h2)
theorem wpT_app_s (i : Nat) {L : List Oper} {fuel : Nat} {listed : Array Bool} (hd : L.drop i = o :: rest) (hrd : Region.ready md L.toArray listed = [i]) (hgd : o.guard = none) (s x : Operand)
    (ho : o.op = .call { callee := .builtin .append, args := #[s, x], argTypes := #[35, 9] })
    (base : Nat) (v : Value) (xs ys : List UInt8) (hs : a.eval s = v) (hx : a.eval x = .string (str ys)) (hown : OwnB w base v xs) (hbase : base ≤ w.heap.size) (hb : xs.length + ys.length ≤ 1099511627776)
    (h : ∀ v' w', OwnB w' base v' (xs ++ ys) → w.grownBy w' v.ownBlock → wpAny Try.prog md L.toArray Q fuel (listed.setIfInBounds i true) (a.put o.dst v') w') : wpAny Try.prog md L.toArray Q (fuel + 1) listed a w := by
  refine wpT_step i hd hrd fun K hK => ?_
  rw [if_pos (by unfold Region.wanted; rw [hgd])]
  exact wp_app_s s x ho base v xs ys hs hx hown hbase hb fun v' w' h1 h2 => hK _ _ (h v' w' h1 h2)
end
/-- .. onto a slice that is full: what comes lies in a new block. -/
theorem IsB.cells {w : World} {B n : Nat} {ad : Addr} {xs : List UInt8} (h : IsB w B (some ad) n xs) (j : Nat) (u : Value) (hu : (xs.map u8v)[j]? = some u) : w.cell? (ad.add j) = some u := by
  obtain ⟨hj, rfl⟩ := List.getElem?_eq_some_iff.1 hu
  rw [List.length_map] at hj
  obtain ⟨b, off, e, _, hc⟩ := h.2 (by have := h.1; omega)
  cases e
  rw [show (Addr.add ⟨b, off, none⟩ j : Addr) = ⟨b, off + j, none⟩ by unfold Addr.add; split <;> simp_all, hc j hj, List.getElem_map]
theorem wpl_full_b {w : World} {ops : Array Oper} {rest : List Oper} {o : Oper} {a : Act} {Q : Exit → Act → World → Prop} (hgd : o.guard = none) (s x : Operand)
    (ho : o.op = .call { callee := .builtin .append, args := #[s, x], argTypes := #[35, 35] })
    (ad : Addr) (n : Nat) (xs ys : List UInt8) (A : Option Addr) (m c B B0 : Nat) (hs : a.eval s = .slice (some ad) n n) (hx : a.eval x = .slice A m c) (hf : IsB w B0 (some ad) n xs) (hr : IsB w B A m ys) (hm : 0 < m) (hb : n + m ≤ 1099511627776)
    (h : ∀ v' w', OwnB w' w.heap.size v' (xs ++ ys) → Below w.heap.size w w' → wpList Try.prog ops Q rest (a.put o.dst v') w') : wpList Try.prog ops Q (o :: rest) a w := by
  obtain ⟨i, hi, hz, hsz, hby⟩ := info_parts info_u8
  obtain ⟨b, off, rfl, _, _⟩ := hr.2 hm
  have hyl := hr.1
  have hxl := hf.1
  obtain ⟨v', w', hrun, h2, h3⟩ := run_append_arg_grows (P := Try.prog) w 35 o.type 5 i _ 1 1 Try.underlying35 hi hz hsz hby rfl (by omega) ad n n (xs.map u8v) (by rw [List.length_map]; omega) hf.cells ⟨b, off, none⟩ m c (ys.map u8v) (by rw [List.length_map]; omega) hr.cells (by omega) (by unfold maxLen; omega) (by omega)
  refine wpList_plain hgd fun K hK => ?_
  unfold Oper.wp execOp
  simp only [ho, resolve, invoke, builtin, Sem.run_bind, Sem.run_pure, Result.andThen_ok, List.map_toArray, List.map_cons, List.map_nil, hs, hx, hrun]
  refine hK _ _ (h v' w' ?_ ⟨h3.os, h3.tape, h3.output, h3.size, fun k hk => h3.block k hk (by simp)⟩)
  unfold OwnB
  rw [List.map_append, List.length_append, hxl, hyl]
  exact h2
theorem wpl_full_lit {w : World} {t : TypeId} {vals : List Value} {ops : Array Oper} {rest : List Oper} {o : Oper} {a : Act} {Q : Exit → Act → World → Prop} (hgd : o.guard = none) (s x : Operand)
    (ho : o.op = .call { callee := .builtin .append, args := #[s, x], argTypes := #[35, 35] })
    (ad : Addr) (n : Nat) (xs ys : List UInt8) (m c B0 : Nat) (hs : a.eval s = .slice (some ad) n n) (hx : a.eval x = .slice (some ⟨w.heap.size, 0, none⟩) m c) (hv : vals = ys.map u8v) (hym : ys.length = m) (hf : IsB w B0 (some ad) n xs) (hB0 : B0 ≤ w.heap.size) (hm : 0 < m) (hb : n + m ≤ 1099511627776)
    (h : ∀ v' w', OwnB w' w.heap.size v' (xs ++ ys) → Below w.heap.size w w' → wpList Try.prog ops Q rest (a.put o.dst v') w') : wpList Try.prog ops Q (o :: rest) a (w.alloc (.cells vals.toArray t)) := by
  subst hv hym
  have hbl : Below w.heap.size w (w.alloc (.cells (ys.map u8v).toArray t)) := (Below.refl _ _).alloc (Nat.le_refl _) _
  refine wpl_full_b hgd s x ho ad n xs ys _ _ c (w.heap.size + 1) B0 hs hx (hf.below (hbl.mono hB0)) ⟨rfl, fun hn => ⟨_, 0, rfl, by omega, fun i hi => ?_⟩⟩ hm hb fun v' w' h1 h2 => h v' w' (h1.weaken (by simp)) (hbl.trans (h2.mono (by simp)))
  rw [blk_cell (blk_new w t (ys.map u8v).toArray) (0 + i)]
  simp [hi]
/-- A constant's bytes. -/
theorem bytes_const (w : World) (xs : List UInt8) (cs : Array Value) (hcs : cs = (xs.map u8v).toArray) (n : Nat) (hn : xs.length = n) :
    ∃ w', (∀ l : World, l = w.alloc (.cells cs 5) → (convert 35 35 (.slice (some ⟨w.heap.size, 0, none⟩) n n)).run Try.prog l = .ok (.slice (some ⟨w.heap.size, 0, none⟩) n n) w') ∧ IsB w' (w.heap.size + 1) (some ⟨w.heap.size, 0, none⟩) n xs ∧ Below w.heap.size w w' ∧ w'.heap.size = w.heap.size + 1 := by
  subst hcs hn
  refine ⟨_, fun l hl => by rw [hl]; exact Lib.run_convert_bytes_const (P := Try.prog) w 35 5 _ xs.length xs.length Try.underlying35 Try.underlying5, ⟨rfl, fun hn => ⟨_, 0, rfl, by omega, fun i hi => ?_⟩⟩, (Below.refl _ _).alloc (Nat.le_refl _) _, by simp⟩
  rw [cell_of_row _ w.heap.size (0 + i) (xs.map u8v).toArray 5 _ (heap_alloc_new w _)]
  simp [hi]
theorem OwnB.belowRow {w w' : World} {base : Nat} {v : Value} {xs : List UInt8} (h : OwnB w base v xs) (hg : w.grownBy w' v.ownBlock) (hb : base ≤ w.heap.size) : Below base w w' := below_of_grown hg hb fun k hk => (h.lt k hk).1
/-- What lies below block number S stays, but for the row's block. -/
theorem keptS_row {S : Nat} {w w' : World} {v v0 : Value} (hg : w.grownBy w' v.ownBlock) (hS : S ≤ w.heap.size) (hm : v.ownBlock = v0.ownBlock ∨ ∃ k, v.ownBlock = some k ∧ S ≤ k) : KeptS S (fun k => v0.ownBlock = some k) w w' :=
  ⟨hg.os, hg.tape, hg.output, hg.size, fun k hk hne => hg.block k (by omega) (fun e => by
    have e' : v.ownBlock = some k := by first | exact e | exact e.symm
    rcases hm with h | ⟨j, h, hj⟩
    · exact hne (h ▸ e')
    · rw [h] at e'; cases e'; omega)⟩
theorem Moved.from {w : World} {S : Nat} {v v' : Value} (h : Moved w v v') (hS : S ≤ w.heap.size) : v'.ownBlock = v.ownBlock ∨ ∃ k, v'.ownBlock = some k ∧ S ≤ k := h.imp id fun ⟨k, e, hk⟩ => ⟨k, e, by omega⟩
end Go.Proofs.Ytniieckjooahfaa
