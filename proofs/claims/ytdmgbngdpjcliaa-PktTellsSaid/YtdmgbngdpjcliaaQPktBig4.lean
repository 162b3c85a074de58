/- A drawn region that stores into some blocks beside loads of others (XRegionF): the relation of its worlds. No condition. -/
import Derived.Test.YtdmgbngdpjcliaaQPktBig3
import Derived.Test.YtdmgbngdpjcliaaQPktBig1
import Derived.Test.YtdmgbngdpjcliaaQPktBig2
import Derived.Laws.CopyOwn
import Derived.Laws.OwnMore
import Derived.Lib.LazyBuf
import Derived.WalkSpells
namespace Go.Proofs.Ytdmgbngdpjcliaa
open Go.RowKit
/-- What lies below block number S stays, but for some blocks. -/
structure KeptS (S : Nat) (P : Nat → Prop) (a b : World) : Prop where
  os : b.os = a.os
  tape : b.tape = a.tape
  output : b.output = a.output
  size : a.heap.size ≤ b.heap.size
  block : ∀ k, k < S → ¬ P k → b.heap[k]? = a.heap[k]?
theorem keptS_refl (S : Nat) (P : Nat → Prop) (a : World) : KeptS S P a a := ⟨rfl, rfl, rfl, Nat.le_refl _, fun _ _ _ => rfl⟩
theorem keptS_trans (S : Nat) (P : Nat → Prop) (a b c : World) (h : KeptS S P a b) (k : KeptS S P b c) : KeptS S P a c :=
  ⟨k.os.trans h.os, k.tape.trans h.tape, k.output.trans h.output, Nat.le_trans h.size k.size, fun i hi hne => (k.block i hi hne).trans (h.block i hi hne)⟩
theorem keptS_of_below {S : Nat} {P : Nat → Prop} {B : Nat} {a b : World} (h : Below B a b) (hS : S ≤ B) : KeptS S P a b :=
  ⟨h.os, h.tape, h.output, h.size, fun k hk _ => h.block k (by omega)⟩
theorem keptS_set {S : Nat} {P : Nat → Prop} {a b : World} (h : KeptS S P a b) {p : Addr} (hp : P p.block) (u : Value) : KeptS S P a (b.setCell p u) :=
  ⟨h.os, h.tape, h.output, by simpa [World.setCell] using h.size, fun k hk hne => (Below.heap_setCell b p u k (fun e => hne (e ▸ hp))).trans (h.block k hk hne)⟩
/-- Such a world. -/
structure KeptSW (S : Nat) (P : Nat → Prop) (w0 : World) where
  w : World
  hk : KeptS S P w0 w
instance keptSW_nonempty (S : Nat) (P : Nat → Prop) (w0 : World) : Nonempty (KeptSW S P w0) := ⟨⟨w0, keptS_refl _ _ _⟩⟩
theorem KeptSW.blk {S : Nat} {P : Nat → Prop} {w0 : World} (l : KeptSW S P w0) {k : Nat} {x : Option Obj} (h : w0.heap[k]? = x) (hk : k < S) (hne : ¬ P k) : l.w.heap[k]? = x := (l.hk.block k hk hne).trans h
/-- A cell of an old block, where nothing below S turns. -/
theorem KeptSW.cellOf {w wd : World} {a : Addr} {v : Value} (l : KeptSW w.heap.size (fun _ => False) wd) (h : w.cell? a = some v) (hb : Below w.heap.size w wd) : l.w.cell? a = some v := by
  have hlt := World.block_lt_of_cell? w a h
  refine (World.cell?_of_block ?_).trans h
  exact (l.hk.block _ hlt id).trans (hb.block _ hlt)
section
variable {P : Program} {Q : Exit → Act → World → Prop} {md : Region.Mode}
theorem wpS_seg (S : Nat) (B : Nat → Prop) (s k : Nat) {w : World} {L : List Oper} (hs : Region.noSelect L.toArray = true) (hQ : ∀ d v c a w, Q (.panic c) (Act.put a d v) w → Q (.panic c) a w) {fuel : Nat} {listed : Array Bool} {a : Act}
    (hl : Nat.ble (s + k) L.length = true) (hB : ordF md L.toArray (List.range' s k) listed = true) (h : wpQF P L.toArray (KeptS S B) w (fun a' => wpF P md L.toArray Q (KeptS S B) fuel (listAll (List.range' s k) listed) a' w) ((L.drop s).take k) a) :
    wpF P md L.toArray Q (KeptS S B) (fuel + k) listed a w := wpF_seg (keptS_refl S B) (keptS_trans S B) s k hs hQ hl hB h
theorem wpQS_step {S : Nat} {B : Nat → Prop} {ops : Array Oper} {w0 : World} {Q : Act → Prop} {a : Act} {o : Oper} {rest : List Oper}
    (h : ∀ K : Act → Prop, (∀ a, wpQF P ops (KeptS S B) w0 Q rest a → K a) → if Region.wanted o (yielded ops a.tmps) then ∃ v, (∀ l : KeptSW S B w0, quietIn P Eq l.w v ((execOp a.eval o).run P l.w)) ∧ K (a.put o.dst v) else K (a.put o.dst undef)) : wpQF P ops (KeptS S B) w0 Q (o :: rest) a := by
  have h1 := h _ (fun _ h => h)
  unfold wpQF
  split at h1
  · obtain ⟨v, hv, hK⟩ := h1
    rw [if_pos (by assumption)]
    exact ⟨v, fun w hw => hv ⟨w, hw⟩, hK⟩
  · rw [if_neg (by assumption)]
    exact h1
theorem wp_region_S {id : Nat} {a : Act} {w : World} {l : List Oper} (S : Nat) (B : Nat → Prop) (hm : P.follows .mixedOrders = true)
    (h : ∀ wd, Below w.heap.size w wd → wpF P .any l.toArray Q (KeptS S B) l.length (Array.replicate l.length false) a wd) : (Code.region id l.toArray true).wp P Q a w := wp_region_F (KeptS S B) hm (h _ (Below.refl _ _).drew)
end
theorem set3 {w : World} {g : Nat} {t : TypeId} {a0 a1 a2 : Value} (h : w.heap[g]? = some (.cells #[a0, a1, a2] t (0, 0))) (v0 v1 v2 : Value) :
    ∃ w', (((w.setCell ⟨g, 0, none⟩ v0).setCell ⟨g, 1, none⟩ v1).setCell ⟨g, 2, none⟩ v2) = w' ∧ w'.heap[g]? = some (.cells #[v0, v1, v2] t (0, 0)) ∧ w.grownBy w' (some g) := by
  refine ⟨_, rfl, ?_, ?_⟩
  · simpa using (blk_set (blk_set (blk_set h 0 v0) 1 v1) 2 v2)
  · iterate 3 refine grown_set ?_ rfl _
    exact grown_refl _ _
/-- Bytes stay when an address is written. -/
theorem isB_addr {w w' : World} {g B n : Nat} {A : Option Addr} {xs : List UInt8} {t : TypeId} {p : Bool} {q r : Int} (h : IsB w B A n xs) (hg : w.grownBy w' (some g)) (hB : B ≤ w.heap.size) (h0 : w.heap[g]? = some (.cells #[.bool p, .int .u64 q, .int .u64 r] t (0, 0))) : IsB w' B A n xs := by
  refine ⟨h.1, fun hn => ?_⟩
  obtain ⟨b, off, e, hb, hc⟩ := h.2 hn
  refine ⟨b, off, e, hb, fun i hi => ?_⟩
  have hne : b ≠ g := by
    rintro rfl
    have h1 := hc i hi
    rw [blk_cell h0 (off + i)] at h1
    rcases hk : off + i with _ | _ | _ | k <;> rw [hk] at h1 <;> simp [u8v] at h1
  rw [← hc i hi]
  exact World.cell?_of_block (hg.block b (Nat.lt_of_lt_of_le hb hB) (by simpa using hne))
theorem grown_other {w w' : World} {g k : Nat} {x : Option Obj} (h : w.grownBy w' (some g)) (hk : k < w.heap.size) (hne : k ≠ g) (hx : w.heap[k]? = x) : w'.heap[k]? = x := (h.block k hk (by simpa using hne)).trans hx
theorem below_grown {w w' : World} {g B : Nat} (h : w.grownBy w' (some g)) (hB : B ≤ w.heap.size) (hg : B ≤ g) : Below B w w' := below_of_grown h hB (by intro k hk; cases hk; exact hg)
end Go.Proofs.Ytdmgbngdpjcliaa
/- A drawn region whose calls make memory, or turn one row of the call's own, beside loads of what stays (XRegionF): the relation of its worlds. No condition. -/
namespace Go.Proofs.Ytdmgbngdpjcliaa
open Go.RowKit
/-- What lies below block number S stays, but for the row. -/
structure KeptR (S : Nat) (row : Option Nat) (a b : World) : Prop where
  os : b.os = a.os
  tape : b.tape = a.tape
  output : b.output = a.output
  size : a.heap.size ≤ b.heap.size
  block : ∀ k, k < S → some k ≠ row → b.heap[k]? = a.heap[k]?
theorem kept_refl (S : Nat) (row : Option Nat) (a : World) : KeptR S row a a := ⟨rfl, rfl, rfl, Nat.le_refl _, fun _ _ _ => rfl⟩
theorem kept_trans (S : Nat) (row : Option Nat) (a b c : World) (h : KeptR S row a b) (k : KeptR S row b c) : KeptR S row a c :=
  ⟨k.os.trans h.os, k.tape.trans h.tape, k.output.trans h.output, Nat.le_trans h.size k.size, fun i hi hne => (k.block i hi hne).trans (h.block i hi hne)⟩
theorem kept_of_below {S : Nat} {row : Option Nat} {B : Nat} {a b : World} (h : Below B a b) (hS : S ≤ B) : KeptR S row a b :=
  ⟨h.os, h.tape, h.output, h.size, fun k hk _ => h.block k (by omega)⟩
theorem kept_drew (S : Nat) (row : Option Nat) (a : World) : KeptR S row a a.drew := kept_of_below ((Below.refl S a).drew) (Nat.le_refl _)
theorem kept_of_grew {S : Nat} {row : Option Nat} {a b : World} {v v' : Value} (h : Grew a v b v') (hv : v.ownBlock = row ∨ ∃ k, v.ownBlock = some k ∧ S ≤ k) (hS : S ≤ a.heap.size) : KeptR S row a b :=
  ⟨h.grown.os, h.grown.tape, h.grown.output, h.grown.size, fun k hk hne => h.grown.block k (by omega) (by
    rcases hv with e | ⟨j, e, hj⟩
    · rw [e]; exact fun e' => hne e'
    · rw [e]; intro e'; cases e'; omega)⟩
theorem moved_row {S : Nat} {row : Option Nat} {a b : World} {v v' : Value} (h : Grew a v b v') (hv : v.ownBlock = row ∨ ∃ k, v.ownBlock = some k ∧ S ≤ k) (hS : S ≤ a.heap.size) : v'.ownBlock = row ∨ ∃ k, v'.ownBlock = some k ∧ S ≤ k := by
  rcases h.moved with e | ⟨k, e, hk⟩
  · rw [e]; exact hv
  · exact .inr ⟨k, e, by omega⟩
/-- Such a world. -/
structure KeptW (S : Nat) (row : Option Nat) (w0 : World) where
  w : World
  hk : KeptR S row w0 w
instance keptW_nonempty (S : Nat) (row : Option Nat) (w0 : World) : Nonempty (KeptW S row w0) := ⟨⟨w0, kept_refl _ _ _⟩⟩
theorem KeptW.blk {S : Nat} {row : Option Nat} {w0 : World} (l : KeptW S row w0) {k : Nat} {x : Option Obj} (h : w0.heap[k]? = x) (hk : k < S) (hne : some k ≠ row) : l.w.heap[k]? = x := (l.hk.block k hk hne).trans h
section
variable {P : Program} {Q : Exit → Act → World → Prop} {md : Region.Mode}
theorem wpK_seg (S : Nat) (row : Option Nat) (s k : Nat) {w : World} {L : List Oper} (hs : Region.noSelect L.toArray = true) (hQ : ∀ d v c a w, Q (.panic c) (Act.put a d v) w → Q (.panic c) a w) {fuel : Nat} {listed : Array Bool} {a : Act}
    (hl : Nat.ble (s + k) L.length = true) (hB : ordF md L.toArray (List.range' s k) listed = true) (h : wpQF P L.toArray (KeptR S row) w (fun a' => wpF P md L.toArray Q (KeptR S row) fuel (listAll (List.range' s k) listed) a' w) ((L.drop s).take k) a) :
    wpF P md L.toArray Q (KeptR S row) (fuel + k) listed a w := wpF_seg (kept_refl S row) (kept_trans S row) s k hs hQ hl hB h
theorem wpQK_step {S : Nat} {row : Option Nat} {ops : Array Oper} {w0 : World} {Q : Act → Prop} {a : Act} {o : Oper} {rest : List Oper}
    (h : ∀ K : Act → Prop, (∀ a, wpQF P ops (KeptR S row) w0 Q rest a → K a) → if Region.wanted o (yielded ops a.tmps) then ∃ v, (∀ l : KeptW S row w0, quietIn P Eq l.w v ((execOp a.eval o).run P l.w)) ∧ K (a.put o.dst v) else K (a.put o.dst undef)) : wpQF P ops (KeptR S row) w0 Q (o :: rest) a := by
  have h1 := h _ (fun _ h => h)
  unfold wpQF
  split at h1
  · obtain ⟨v, hv, hK⟩ := h1
    rw [if_pos (by assumption)]
    exact ⟨v, fun w hw => hv ⟨w, hw⟩, hK⟩
  · rw [if_neg (by assumption)]
    exact h1
theorem wp_region_K {id : Nat} {a : Act} {w : World} {l : List Oper} (S : Nat) (row : Option Nat) (hm : P.follows .mixedOrders = true)
    (h : wpF P .any l.toArray Q (KeptR S row) l.length (Array.replicate l.length false) a w.drew) : (Code.region id l.toArray true).wp P Q a w := wp_region_F (KeptR S row) hm h
end
section
variable {Q : Exit → Act → World → Prop} {md : Region.Mode}
/-- append onto the row, as the one step that may come up. -/
theorem wpK_src {S : Nat} {row : Option Nat} (i : Nat) {L : List Oper} {o : Oper} {rest : List Oper} {fuel : Nat} {listed : Array Bool} {a : Act} {w : World} (hd : L.drop i = o :: rest) (hrd : Region.ready md L.toArray listed = [i]) (hgd : o.guard = none) (s x : Operand)
    (ho : o.op = .call { callee := .builtin .append, args := #[s, x], argTypes := #[22, 22] })
    (base : Nat) (v : Value) (xs ys : List UInt8) (A : Option Addr) (m c B : Nat) (hs : a.eval s = v) (hx : a.eval x = .slice A m c) (hown : OwnB w base v xs) (hr : IsB w B A m ys) (hbase : base ≤ w.heap.size) (hb : xs.length + m ≤ 1099511627776)
    (hv : v.ownBlock = row ∨ ∃ k, v.ownBlock = some k ∧ S ≤ k) (hS : S ≤ w.heap.size)
    (h : ∀ v' w', OwnB w' base v' (xs ++ ys) → Grew w v w' v' → wpF Try.prog md L.toArray Q (KeptR S row) fuel (listed.setIfInBounds i true) (a.put o.dst v') w') : wpF Try.prog md L.toArray Q (KeptR S row) (fuel + 1) listed a w := by
  refine wpF_step i hd hrd fun K hK => ?_
  have hw : Region.wanted o (yielded L.toArray a.tmps) = true := by unfold Region.wanted; rw [hgd]
  rw [if_pos hw]
  exact wp_src_bv s x ho base v xs ys A m c B hs hx hown hr hbase hb fun v' w' h1 h2 => hK _ _ (kept_of_grew h2 hv hS) (h v' w' h1 h2)
end
end Go.Proofs.Ytdmgbngdpjcliaa
/- slices.Clone at bytes: a row of the call's own with the same bytes. And words on bytes as strings. Conditions: at most 2^40 bytes. -/
namespace Go.Proofs.Ytdmgbngdpjcliaa
open Go.RowKit Go.ChangeShapes Go.WideShapes Go.ChangeAt Go.Deep
def str (xs : List UInt8) : ByteArray := ⟨xs.toArray⟩
theorem IsB.str {w : World} {B n : Nat} {A : Option Addr} {xs : List UInt8} (h : IsB w B A n xs) (c : Nat) : (convert 22 9 (.slice A n c)).run Try.prog w = .ok (.string (str xs)) w := by
  rcases A with _ | ad
  · have h0 : n = 0 := by
      rcases Nat.eq_zero_or_pos n with h0 | h0
      · exact h0
      · obtain ⟨_, _, e, _⟩ := h.2 h0
        cases e
    have hx : xs = [] := List.eq_nil_of_length_eq_zero (by rw [h.1, h0])
    subst hx
    exact run_convert_bytes_nil w 22 5 Try.underlying22 Try.underlying5 n c 9 Try.underlying9
  · have hn := h.1
    subst hn
    refine run_convert_bytes_back w 22 9 5 ad c xs Try.underlying22 Try.underlying5 Try.underlying9 fun j hj => ?_
    obtain ⟨b, off, e, _, hc⟩ := h.2 (by omega)
    cases e
    rw [show (Addr.add ⟨b, off, none⟩ j : Addr) = ⟨b, off + j, none⟩ by unfold Addr.add; split <;> simp_all]
    exact hc j hj
theorem str_inj {xs ys : List UInt8} (h : str xs = str ys) : xs = ys := by
  have h1 : (str xs).data.toList = (str ys).data.toList := by rw [h]
  simpa [str] using h1
set_option maxHeartbeats 1000000 in
theorem clone_any (A : Option Addr) (n c : Nat) (xs : List UInt8) (w : World) (hx : IsB w w.heap.size A n xs) (hn : n ≤ 1099511627776) :
    Calls Try.prog 55 #[.slice A n c] w fun e w' => ∃ v, e = .returned v ∧ OwnB w' w.heap.size v xs ∧ Below w.heap.size w w' := by
  have hnil := fun W => Lib.run_eql_slice_nil (P := Try.prog) W 22 5 A n c 0 0 Try.underlying22
  rcases A with _ | ad
  · have h0 : n = 0 := by
      rcases Nat.eq_zero_or_pos n with h0 | h0
      · exact h0
      · obtain ⟨_, _, e, _⟩ := hx.2 h0
        cases e
    obtain rfl : xs = [] := List.eq_nil_of_length_eq_zero (by rw [hx.1, h0])
    subst h0
    simp only [Option.isNone_none] at hnil
    clear hx
    go_enter Try.func55, Try.ntmps55
    go_wp2
    go_ret
    exact ⟨_, rfl, OwnB.nil _ _, Below.refl _ _⟩
  · go_enter Try.func55, Try.ntmps55
    go_wp2_with (at_builtin; refine wpl_src_b rfl (.tmp 5) (.tmp 6) rfl w.heap.size _ [] xs _ _ _ (w.heap.size + 1) rfl rfl ?_ ?_ ?_ ?_ ?_)
    · exact OwnB.empty w w.heap.size (Nat.le_refl _)
    · exact (hx.on ((Below.refl _ _).alloc (Nat.le_refl _) _)).more (by simp)
    · simp
    · simp; omega
    intro v' w' hown hb _ _
    go_wp2
    go_ret
    exact ⟨_, rfl, hown, ((Below.refl _ _).alloc (Nat.le_refl _) _).trans hb⟩
end Go.Proofs.Ytdmgbngdpjcliaa
/- The small functions of layer 8, and what its statements' texts use, by contract. Conditions: slices of bytes that read as lists. -/
namespace Go.Proofs.Ytdmgbngdpjcliaa
open Go.RowKit Go.ChangeShapes Go.WideShapes Go.ChangeAt Go.Deep
/-- An address, as a value. -/
abbrev addrV (v : Bool) (hi lo : Int) : Value := .agg #[.bool v, .int .u64 hi, .int .u64 lo]
namespace Four
/-- A header, as a value. -/
abbrev hdV (tos id : Int) (df mf : Bool) (frag ttl proto : Int) (sv : Bool) (shi slo : Int) (dv : Bool) (dhi dlo : Int) (A : Option Addr) (n c : Nat) : Value :=
  .agg #[.int .i64 tos, .int .i64 id, .bool df, .bool mf, .int .i64 frag, .int .i64 ttl, .int .i64 proto, .bool sv, .int .u64 shi, .int .u64 slo, .bool dv, .int .u64 dhi, .int .u64 dlo, .slice A n c]
/-- A header's cells. -/
abbrev hdC (tos id : Int) (df mf : Bool) (frag ttl proto : Int) (sv : Bool) (shi slo : Int) (dv : Bool) (dhi dlo : Int) (A : Option Addr) (n c : Nat) : Obj :=
  .cells #[.int .i64 tos, .int .i64 id, .bool df, .bool mf, .int .i64 frag, .int .i64 ttl, .int .i64 proto, .bool sv, .int .u64 shi, .int .u64 slo, .bool dv, .int .u64 dhi, .int .u64 dlo, .slice A n c] 51
theorem v4_any (x : Int) (w : World) (hx : 0 ≤ x) (hx2 : x < 4294967296) :
    Calls Try.prog 48 #[.int .u32 x] w fun e w' => e = .returned (.agg #[.bool false, .int .u64 0, .int .u64 x]) ∧ Below w.heap.size w w' := by
  go_enter Try.func48, Try.ntmps48
  go_wp2
  exact bodyPost_ret (v := .agg #[.bool false, .int .u64 0, .int .u64 x]) (by simp [results, Try.results48, go_sem]) rfl ⟨rfl, (Below.refl _ _).alloc (Nat.le_refl _) _⟩
/-- May an address be? -/
def okA (v : Bool) (hi lo : Int) : Bool := v || (decide (hi = 0) && decide (lo < 4294967296))
theorem addr_right (v : Bool) (hi lo : Int) (r : Bool) (w : World) (hr : okA v hi lo = r) :
    Calls Try.prog 21 #[.agg #[.bool v, .int .u64 hi, .int .u64 lo]] w fun e w' => e = .returned (.bool r) ∧ Below w.heap.size w w' := by
  subst hr
  rcases v with _ | _
  · by_cases h1 : hi = 0
    · subst h1
      go_enter Try.func21, Try.ntmps21
      go_wp2
      go_ret
      exact ⟨by simp [okA], (Below.refl _ _).alloc (Nat.le_refl _) _⟩
    · have h2 : (hi == 0) = false := by simp [h1]
      go_enter Try.func21, Try.ntmps21
      go_wp2
      go_ret
      exact ⟨by simp [okA, h1], (Below.refl _ _).alloc (Nat.le_refl _) _⟩
  · go_enter Try.func21, Try.ntmps21
    go_wp2
    go_ret
    exact ⟨by simp [okA], (Below.refl _ _).alloc (Nat.le_refl _) _⟩
theorem len_any (tos id : Int) (df mf : Bool) (frag ttl proto : Int) (sv : Bool) (shi slo : Int) (dv : Bool) (dhi dlo : Int) (A : Option Addr) (n c : Nat) (w : World) (hn : n ≤ 1099511627776) :
    Calls Try.prog 50 #[hdV tos id df mf frag ttl proto sv shi slo dv dhi dlo A n c] w fun e w' => e = .returned (.int .i64 (20 + (n : Int))) ∧ Below w.heap.size w w' := by
  unfold hdV
  go_enter Try.func50, Try.ntmps50
  go_wp2
  go_ret
  exact ⟨rfl, (Below.refl _ _).alloc (Nat.le_refl _) _⟩
end Four
end Go.Proofs.Ytdmgbngdpjcliaa
/- octet.Set where the number lies within: the bytes with that number at its place, in a row of the call's own. Conditions: 1 to 8 bytes within, sizes below 2^39. -/
namespace Go.Proofs.Ytdmgbngdpjcliaa
open Go.RowKit Go.ChangeShapes Go.WideShapes Go.ChangeAt Go.Deep
def setB (xs : List UInt8) (p : Nat) (ys : List UInt8) : List UInt8 := xs.take p ++ (ys ++ xs.drop (p + ys.length))
theorem setB_length (xs : List UInt8) (p : Nat) (ys : List UInt8) (h : p + ys.length ≤ xs.length) : (setB xs p ys).length = xs.length := by simp [setB]; omega
theorem OwnB.row {w : World} {base : Nat} {A : Option Addr} {n c : Nat} {xs : List UInt8} (h : OwnB w base (.slice A n c) xs) (hn : 0 < n) :
    ∃ g cur, A = some ⟨g, 0, none⟩ ∧ base ≤ g ∧ w.heap[g]? = some (.cells (List.toArray cur) 5 (0, 0)) ∧ cur.length = c ∧ cur.take n = xs.map u8v ∧ n ≤ c ∧ c ≤ maxLen ∧ xs.length = n := by
  have hl := h.reads.1
  rcases h.2 with ⟨e, _⟩ | ⟨g, cap, cur, e, hg, hh, hn', hm, hs, ht⟩
  · cases e
    omega
  · cases e
    exact ⟨g, cur.toList, rfl, hg, by simpa using hh, by simpa using hs, by simpa [hl] using ht, hn', hm, hl⟩
theorem own_of_row {w : World} {base g n c : Nat} {cur : List Value} {xs : List UInt8} (hg : base ≤ g) (hh : w.heap[g]? = some (.cells cur.toArray 5 (0, 0))) (hc : cur.length = c) (ht : cur.take n = xs.map u8v) (hn : n ≤ c) (hm : c ≤ maxLen) (hl : xs.length = n) :
    OwnB w base (.slice (some ⟨g, 0, none⟩) n c) xs := by
  subst hl
  exact ⟨by simp, .inr ⟨g, c, cur.toArray, rfl, hg, hh, hn, hm, by simpa using hc, by simpa using ht⟩⟩
theorem splice_take (cur : List Value) (xs ys : List UInt8) (n p : Nat) (ht : cur.take n = xs.map u8v) (_hn : n ≤ cur.length) (hl : xs.length = n) (h : p + ys.length ≤ n) : (splice cur p (ys.map u8v)).take n = (setB xs p ys).map u8v := by
  have hc : cur = xs.map u8v ++ cur.drop n := by rw [← ht, List.take_append_drop]
  have e1 : cur.take p = (xs.take p).map u8v := by
    rw [hc, List.take_append_of_le_length (by rw [List.length_map]; omega), List.map_take]
  have e2 : cur.drop (p + ys.length) = (xs.drop (p + ys.length)).map u8v ++ cur.drop n := by
    conv => lhs; rw [hc]
    rw [List.drop_append_of_le_length (by rw [List.length_map]; omega), List.map_drop]
  unfold splice setB
  rw [List.length_map, e1, e2, List.map_append, List.map_append, ← List.append_assoc, ← List.append_assoc, ← List.append_assoc]
  rw [List.take_append_of_le_length (by simp; omega), List.take_of_length_le (by simp; omega)]
set_option maxHeartbeats 2000000 in
theorem set_in (A : Option Addr) (n c : Nat) (xs : List UInt8) (p N k : Nat) (pi Ni ki : Int) (hpi : pi = (p : Int)) (hNi : Ni = (N : Int)) (hki : ki = (k : Int)) (w : World) (hx : IsB w w.heap.size A n xs) (hn : n ≤ 549755813888) (hp : p + k ≤ n) (hk : k ≤ 8) (hk0 : 0 < k) (hN : N < 18446744073709551616) :
    Calls Try.prog 81 #[.slice A n c, .int .i64 pi, .int .u64 Ni, .int .i64 ki] w fun e w' => ∃ v, e = .returned v ∧ OwnB w' w.heap.size v (setB xs p (beB N k)) ∧ Below w.heap.size w w' := by
  subst hpi hNi hki
  go_enter Try.func81, Try.ntmps81
  go_wp2_with (at_builtin; refine wpl_src_bv rfl _ _ rfl w.heap.size (.slice none 0 0) [] xs A n c w.heap.size rfl rfl (OwnB.nil _ _) hx (Nat.le_refl _) ?_ ?_)
  · simp; omega
  intro v1 w1 hown1 hg1
  have hb1 := hg1.belowNil
  obtain ⟨A1, c1, rfl, hc1, hm1, hi1⟩ := hown1.form
  rw [hx.1] at hown1 hc1 hi1 ⊢
  obtain ⟨g, cur, rfl, hgb, hh, hcl, htk, _, _, hxl⟩ := hown1.row (by omega)
  have i1 : (p : Int) ≤ (n : Int) := by omega
  have i2 : (p : Int) ≤ (n : Int) - (k : Int) := by omega
  have i3 : (k : Int) ≤ 8 := by omega
  replace hown1 := hide hown1
  replace hg1 := hide hg1
  replace hb1 := hide hb1
  replace hi1 := hide hi1
  replace hh := hide hh
  replace hcl := hide hcl
  replace htk := hide htk
  replace hxl := hide hxl
  replace hx := hide hx
  have hne : ¬ c1 = p := by omega
  go_wp2_with fail
  refine wp_region_L (by kernel_rfl) ?_
  refine wpE_seg 0 5 (fuel := 2) (by kernel_rfl) (fun d _ _ _ _ h => by cases d <;> exact h) (by kernel_rfl) (by kernel_rfl) ?_
  simp only [List.drop_zero, List.take_succ_cons, List.take_zero]
  repeat (refine wpQE_step (fun K hK => ?_); go_simp; (try go_bits); refine hK _ ?_; clear hK K)
  refine wpQE_nil ?_
  refine wpE_step 5 (fuel := 1) rfl (by kernel_rfl) (fun l K hK => ?_)
  go_simp
  go_at_call 76
  refine (put_lit _ _ N k rfl rfl l.w.heap.size _ [] _ (OwnB.nil _ _) (Nat.le_refl _) hN hk (by simp)).mono ?_
  rintro e w3 ⟨v2, rfl, hown2, hg2⟩
  have hb2 := hg2.belowNil
  refine hK _ _ hb2 ?_
  clear hK K
  obtain ⟨A2, c2, rfl, hc2, hm2, hi2⟩ := hown2.form
  simp only [List.nil_append, beB_length] at hi2 hc2 ⊢
  refine wpE_end (by kernel_rfl) (fun l2 => ?_)
  refine wpT_step 6 rfl (by kernel_rfl) (fun K hK => ?_)
  have hi4 := hi2.later l2
  obtain ⟨b2, off2, rfl, hbl2, hcs2⟩ := hi4.vals.2 (by omega)
  have hz1 := hg1.out.grown.size
  have hgl : g < w1.heap.size := (Array.getElem?_eq_some_iff.1 hh.out).1
  have hh4 : l2.w.heap[g]? = some (.cells cur.toArray 5 (0, 0)) := blk_below l2.hb (by have := l.hb.size; have := hb2.size; omega) (blk_below hb2 (by have := l.hb.size; omega) (blk_below l.hb hgl hh.out))
  have hb4 : Below w.heap.size w l2.w := ((hb1.out.trans (l.hb.mono hz1)).trans (hb2.mono (by have := l.hb.size; omega))).trans (l2.hb.mono (by have := l.hb.size; have := hb2.size; omega))
  refine step_copy_splice rfl _ _ _ _ rfl 5 Try.underlying22 (by kernel_rfl) _ _ _ _ _ _ rfl rfl g p cur 5 hh4 ((beB N k).map u8v) ?_ ?_ ?_ (u8v_one _) w.heap.size w hb4 hgb ?_
  · rw [List.length_map, beB_length]
    exact (Nat.min_eq_left (by omega)).symm
  · intro _
    refine ⟨rfl, _, rfl, fun j v hj => ?_⟩
    obtain ⟨hj', rfl⟩ := List.getElem?_eq_some_iff.1 hj
    rw [show Addr.add ⟨b2, off2, none⟩ j = (⟨b2, off2 + j, none⟩ : Addr) by unfold Addr.add; split <;> simp_all]
    exact hcs2 j hj'
  · rw [List.length_map, beB_length, hcl.out]; omega
  intro w5 hh5 hb5
  refine hK _ _ ?_
  clear hK K
  refine wpT_done (by kernel_rfl) ?_ 0
  replace hcs2 := hide hcs2
  replace hh4 := hide hh4
  replace hb4 := hide hb4
  replace hb5 := hide hb5
  go_wp2_with fail
  go_ret
  refine ⟨_, rfl, own_of_row hgb hh5.out ?_ (splice_take cur xs (beB N k) n p htk.out (by rw [hcl.out]; exact hc1) hxl.out (by rw [beB_length]; exact hp)) hc1 hm1 (by rw [setB_length _ _ _ (by rw [beB_length, hxl.out]; exact hp), hxl.out]), hb5.out⟩
  rw [length_splice _ _ _ (by rw [List.length_map, beB_length, hcl.out]; omega), hcl.out]
end Go.Proofs.Ytdmgbngdpjcliaa
/- Plain facts on bytes that are put and read again, and on the check among them. No condition. -/
namespace Go.Proofs.Ytdmgbngdpjcliaa
theorem beB_getD (N : Nat) : ∀ (k j : Nat), j < k → (beB N k).getD j 0 = UInt8.ofNat (N / 256 ^ (k - 1 - j))
  | 0, j, h => by omega
  | k + 1, 0, _ => by simp [beB]
  | k + 1, j + 1, h => by
    simp only [beB, List.getD_cons_succ]
    rw [beB_getD N k j (by omega), show k + 1 - 1 - (j + 1) = k - 1 - j by omega]
theorem getD_mid (pre mid post : List UInt8) (j : Nat) (h : j < mid.length) : (pre ++ (mid ++ post)).getD (pre.length + j) 0 = mid.getD j 0 := by
  simp only [List.getD]
  rw [List.getElem?_append_right (by omega), show pre.length + j - pre.length = j by omega, List.getElem?_append_left h]
theorem beN_mid (N k : Nat) (pre post : List UInt8) (p : Nat) (hp : pre.length = p) : ∀ j, j ≤ k → beN (pre ++ (beB N k ++ post)) p j = N / 256 ^ (k - j) % 256 ^ j
  | 0, _ => by simp [beN, Nat.mod_one]
  | j + 1, h => by
    subst hp
    have ih := beN_mid N k pre post pre.length rfl j (by omega)
    rw [beN, ih, getD_mid _ _ _ _ (by rw [beB_length]; omega), beB_getD _ _ _ (by omega), UInt8.toNat_ofNat']
    rw [show k - 1 - j = k - (j + 1) by omega]
    have e1 : N / 256 ^ (k - j) = N / 256 ^ (k - (j + 1)) / 256 := by
      rw [show k - j = (k - (j + 1)) + 1 by omega, Nat.pow_succ, Nat.div_div_eq_div_mul]
    rw [e1]
    generalize N / 256 ^ (k - (j + 1)) = M
    rw [show 256 ^ (j + 1) = 256 * 256 ^ j by rw [Nat.pow_succ, Nat.mul_comm], Nat.mod_mul]
    omega
theorem beN_put (N k : Nat) (pre post : List UInt8) (p : Nat) (hp : pre.length = p) (hN : N < 256 ^ k) : beN (pre ++ (beB N k ++ post)) p k = N := by
  rw [beN_mid N k pre post p hp k (Nat.le_refl _)]
  simp [Nat.mod_eq_of_lt hN]
namespace Sum
theorem ones_check (T : Nat) : ones (T + (65535 - ones T)) = 65535 := by
  unfold ones
  split
  · rename_i h0
    subst h0
    rfl
  · have h1 : (T - 1) % 65535 < 65535 := Nat.mod_lt _ (by omega)
    have h2 : T + (65535 - ((T - 1) % 65535 + 1)) ≠ 0 := by omega
    rw [if_neg h2]
    omega
theorem tot_two (c : Nat) (hc : c ≤ 65535) : tot false (beB c 2) = c := by
  simp only [beB, tot, UInt8.toNat_ofNat']
  simp
  omega
/-- The sum behind a check that is set where two zeros stood, at an even place. -/
theorem tot_set (pre xs : List UInt8) (p c : Nat) (hc : c ≤ 65535) (hp : p + 2 ≤ xs.length) (h0 : (xs.drop p).take 2 = [0, 0]) (he : (pre.length + p) % 2 = 0) : tot false (pre ++ setB xs p (beB c 2)) = tot false (pre ++ xs) + c := by
  have hx : xs = xs.take p ++ ([0, 0] ++ xs.drop (p + 2)) := by
    rw [← h0, ← List.drop_drop, List.take_append_drop, List.take_append_drop]
  have hl : (xs.take p).length = p := by rw [List.length_take]; omega
  conv => rhs; rw [hx]
  unfold setB
  rw [beB_length]
  have hpar : (false ^^ decide (pre.length % 2 = 1) ^^ decide ((xs.take p).length % 2 = 1)) = false := by
    rw [hl]
    by_cases h1 : pre.length % 2 = 1 <;> by_cases h2 : p % 2 = 1 <;> simp [h1, h2] <;> omega
  rw [tot_append, tot_append, tot_append, tot_append, tot_append, tot_append, hpar, tot_two c hc]
  have e2 : tot false ([0, 0] : List UInt8) = 0 := by simp [tot]
  rw [e2, beB_length]
  simp only [List.length_cons, List.length_nil, Nat.zero_add, Nat.reduceAdd]
  omega
end Sum
end Go.Proofs.Ytdmgbngdpjcliaa
/- six.Pseudo, by contract. Conditions: numbers of 64 bits. -/
namespace Go.Proofs.Ytdmgbngdpjcliaa
open Go.RowKit Go.ChangeShapes Go.WideShapes Go.ChangeAt Go.Deep
namespace Six
def pseudoB (shi slo dhi dlo s1 p1 : Nat) : List UInt8 := (allB 8 [shi, slo, dhi, dlo] ++ beB s1 4) ++ [0, 0, 0, UInt8.ofNat p1]
set_option maxRecDepth 20000 in
set_option maxHeartbeats 2000000 in
theorem pseudo_any (sv : Bool) (shi slo : Nat) (dv : Bool) (dhi dlo : Nat) (proto size : Int) (p1 s1 : Nat) (hp1 : proto % 256 = (p1 : Int)) (hs1 : IntKind.u64.wrap size = (s1 : Int)) (w : World) (h1 : shi < 18446744073709551616) (h2 : slo < 18446744073709551616) (h3 : dhi < 18446744073709551616) (h4 : dlo < 18446744073709551616) (hs2 : s1 < 18446744073709551616) :
    Calls Try.prog 72 #[.agg #[.bool sv, .int .u64 shi, .int .u64 slo], .agg #[.bool dv, .int .u64 dhi, .int .u64 dlo], .int .i64 proto, .int .i64 size] w fun e w' => ∃ v, e = .returned v ∧ OwnB w' w.heap.size v (pseudoB shi slo dhi dlo s1 p1) ∧ Below w.heap.size w w' := by
  obtain ⟨w1, hw1'⟩ : ∃ w1, (w.alloc (.cells #[.bool sv, .int .u64 shi, .int .u64 slo] 26)).alloc (.cells #[.bool dv, .int .u64 dhi, .int .u64 dlo] 26) = w1 := ⟨_, rfl⟩
  have hb1 : Below w.heap.size w w1 := hw1' ▸ ((Below.refl _ _).alloc (Nat.le_refl _) _).alloc (by simp) _
  have hz1 : w1.heap.size = w.heap.size + 1 + 1 := by rw [← hw1']; simp
  have hcs : ∀ i, w1.cell? ⟨w.heap.size, i, none⟩ = _ := fun i => blk_cell (by rw [← hw1']; exact blk_old _ (by simp) (blk_new w 26 #[.bool sv, .int .u64 shi, .int .u64 slo])) i
  have hcd : ∀ i, w1.cell? ⟨w.heap.size + 1, i, none⟩ = _ := fun i => blk_cell (by rw [← hw1']; simpa using blk_new (w.alloc (.cells #[.bool sv, .int .u64 shi, .int .u64 slo] 26)) 26 #[.bool dv, .int .u64 dhi, .int .u64 dlo]) i
  have hp2 : IntKind.u8.wrap proto = (p1 : Int) := by rw [IntKind.wrap_u8]; exact hp1
  have hp3 : p1 ≤ 255 := by omega
  have hN : ∀ N ∈ [shi, slo, dhi, dlo], N < 18446744073709551616 := by
    intro N hN
    simp only [List.mem_cons, List.not_mem_nil, or_false] at hN
    rcases hN with rfl | rfl | rfl | rfl
    · exact h1
    · exact h2
    · exact h3
    · exact h4
  clear h1 h2 h3 h4
  replace hN := hide hN
  replace hs2 := hide hs2
  replace hp1 := hide hp1
  replace hb1 := hide hb1
  replace hz1 := hide hz1
  go_enter Try.func72, Try.ntmps72
  go_wp2_with fail
  refine (all_lit w1.heap.size _ [] 8 _ rfl [shi, slo, dhi, dlo] _ rfl 4 _ rfl _ w1 _ rfl (OwnB.nil _ _) (Nat.le_refl _) (by omega) (by simp) (by omega) hN.out).mono ?_
  rintro e w2 ⟨v2, rfl, hown2, hg2⟩
  have hb2 := hg2.belowNil
  have hz2 := hb2.size
  clear hw1' hg2 hcs hcd
  replace hown2 := hide hown2
  replace hb2 := hide hb2
  go_wp2_with fail
  refine (put_lit _ _ s1 4 rfl rfl w1.heap.size _ _ _ hown2.out hz2 hs2.out (by omega) (by simp [allB_length])).mono ?_
  rintro e w3 ⟨v3, rfl, hown3, hg3⟩
  have hb3 := hb2.out.trans (hg3.below hown2.out hz2)
  have hz3 := hb3.size
  have hv3 : [Value.int .u8 0, .int .u8 0, .int .u8 0, .int .u8 (p1 : Int)] = ([0, 0, 0, UInt8.ofNat p1] : List UInt8).map u8v := by
    simp only [List.map_cons, List.map_nil]
    rw [u8v_nat _ hp3]
    rfl
  clear hg3
  replace hown3 := hide hown3
  replace hb3 := hide hb3
  replace hv3 := hide hv3
  go_wp2_with (at_builtin; refine wpl_lit_bv rfl (.tmp 24) (.tmp 27) rfl w1.heap.size _ _ [0, 0, 0, UInt8.ofNat p1] _ _ rfl rfl hv3.out rfl hown3.out hz3 ?_ ?_)
  · simp [beB_length, allB_length]
  intro v4 w4 hown4 hg4
  have hb4 := hb1.out.trans ((hb3.out.trans (hg4.below hown3.out hz3)).mono (by have := hz1.out; omega))
  clear hg4
  replace hown4 := hide hown4
  replace hb4 := hide hb4
  go_wp2_with fail
  go_ret
  refine ⟨_, rfl, ?_, hb4.out⟩
  have h4 := hown4.out.weaken (base' := w.heap.size) (by have := hz1.out; omega)
  simpa [pseudoB] using h4
end Six
end Go.Proofs.Ytdmgbngdpjcliaa
/- The pseudo header by contract. Conditions: numbers of 64 bits. -/
namespace Go.Proofs.Ytdmgbngdpjcliaa
open Go.RowKit Go.ChangeShapes Go.WideShapes Go.ChangeAt Go.Deep
namespace Four
set_option maxRecDepth 20000 in
set_option maxHeartbeats 2000000 in
theorem pseudo_any (sv : Bool) (shi slo : Nat) (dv : Bool) (dhi dlo : Nat) (proto size : Int) (p1 s1 : Nat) (hp1 : proto % 256 = (p1 : Int)) (hs1 : IntKind.u64.wrap size = (s1 : Int)) (w : World) (h1 : slo < 18446744073709551616) (h2 : dlo < 18446744073709551616) (hs2 : s1 < 18446744073709551616) :
    Calls Try.prog 86 #[.agg #[.bool sv, .int .u64 shi, .int .u64 slo], .agg #[.bool dv, .int .u64 dhi, .int .u64 dlo], .int .i64 proto, .int .i64 size] w fun e w' => ∃ v, e = .returned v ∧ OwnB w' w.heap.size v (((beB slo 4 ++ beB dlo 4) ++ [0, UInt8.ofNat p1]) ++ beB s1 2) ∧ Below w.heap.size w w' := by
  obtain ⟨w1, hw1'⟩ : ∃ w1, (w.alloc (.cells #[.bool sv, .int .u64 shi, .int .u64 slo] 26)).alloc (.cells #[.bool dv, .int .u64 dhi, .int .u64 dlo] 26) = w1 := ⟨_, rfl⟩
  have hb1 : Below w.heap.size w w1 := hw1' ▸ ((Below.refl _ _).alloc (Nat.le_refl _) _).alloc (by simp) _
  have hz1 : w1.heap.size = w.heap.size + 1 + 1 := by rw [← hw1']; simp
  have hcs : ∀ i, w1.cell? ⟨w.heap.size, i, none⟩ = _ := fun i => blk_cell (by rw [← hw1']; exact blk_old _ (by simp) (blk_new w 26 #[.bool sv, .int .u64 shi, .int .u64 slo])) i
  have hcd : ∀ i, w1.cell? ⟨w.heap.size + 1, i, none⟩ = _ := fun i => blk_cell (by rw [← hw1']; simpa using blk_new (w.alloc (.cells #[.bool sv, .int .u64 shi, .int .u64 slo] 26)) 26 #[.bool dv, .int .u64 dhi, .int .u64 dlo]) i
  have hp2 : IntKind.u8.wrap proto = (p1 : Int) := by rw [IntKind.wrap_u8]; exact hp1
  have hp3 : p1 ≤ 255 := by omega
  have hN : ∀ N ∈ [slo, dlo], N < 18446744073709551616 := by
    intro N hN
    simp only [List.mem_cons, List.not_mem_nil, or_false] at hN
    rcases hN with rfl | rfl
    · exact h1
    · exact h2
  replace hN := hide hN
  replace hs2 := hide hs2
  clear h1 h2
  replace hp1 := hide hp1
  replace hb1 := hide hb1
  replace hz1 := hide hz1
  go_enter Try.func86, Try.ntmps86
  go_wp2_with fail
  refine (all_lit w1.heap.size _ [] 4 _ rfl [slo, dlo] _ rfl 2 _ rfl _ w1 _ rfl (OwnB.nil _ _) (Nat.le_refl _) (by omega) (by simp) (by omega) hN.out).mono ?_
  rintro e w2 ⟨v2, rfl, hown2, hg2⟩
  have hb2 := hg2.belowNil
  have hz2 := hb2.size
  have hv3 : [Value.int .u8 0, .int .u8 (p1 : Int)] = ([0, UInt8.ofNat p1] : List UInt8).map u8v := by
    simp only [List.map_cons, List.map_nil]
    rw [u8v_nat _ hp3]
    rfl
  clear hw1' hg2 hcs hcd
  replace hown2 := hide hown2
  replace hb2 := hide hb2
  replace hv3 := hide hv3
  go_wp2_with (at_builtin; refine wpl_lit_bv rfl (.tmp 16) (.tmp 19) rfl w1.heap.size _ _ [0, UInt8.ofNat p1] _ _ rfl rfl ?_ ?_ hown2.out ?_ ?_ ?_)
  · exact hv3.out
  · rfl
  · exact hz2
  · simp [beB_length, allB_length]
  intro v3 w3 hown3 hg3
  have hb3 := hb2.out.trans (hg3.below hown2.out hz2)
  clear hg3
  replace hown3 := hide hown3
  replace hb3 := hide hb3
  go_wp2_with fail
  refine (put_lit _ _ s1 2 rfl rfl w1.heap.size _ _ _ hown3.out hb3.out.size hs2.out (by omega) (by simp [allB_length])).mono ?_
  rintro e w4 ⟨v4, rfl, hown4, hg4⟩
  have hb4 := hb1.out.trans ((hb3.out.trans (hg4.below hown3.out hb3.out.size)).mono (by have := hz1.out; omega))
  clear hg4
  replace hown4 := hide hown4
  replace hb4 := hide hb4
  go_wp2_with fail
  go_ret
  refine ⟨_, rfl, ?_, hb4.out⟩
  have h4 := hown4.out.weaken (base' := w.heap.size) (by have := hz1.out; omega)
  simpa [allB] using h4
end Four
end Go.Proofs.Ytdmgbngdpjcliaa
/- icmp.Parse and what its statement's text uses, by contract. Conditions: slices of bytes that read as lists. -/
namespace Go.Proofs.Ytdmgbngdpjcliaa
open Go.RowKit Go.ChangeShapes Go.WideShapes Go.ChangeAt Go.Deep
namespace Icmp
/-- What a message is that bytes of 8 at least are. -/
def msgV (xs : List UInt8) (A : Option Addr) (m c : Nat) : Value := .agg #[.int .i64 ((xs.getD 0 0).toNat : Nat), .int .i64 ((xs.getD 1 0).toNat : Nat), .int .u32 (beN xs 4 4 : Nat), .slice A m c]
def msg0 : Value := .agg #[.int .i64 0, .int .i64 0, .int .u32 0, .slice none 0 0]
theorem parse_short (A P : Option Addr) (n c m d : Nat) (w : World) (hn : n < 8) :
    Calls Try.prog 63 #[.slice A n c, .slice P m d] w fun e w' => e = .returned (.tuple #[msg0, .int .i64 2]) ∧ Below w.heap.size w w' := by
  go_enter Try.func63, Try.ntmps63
  go_wp2
  exact bodyPost_ret (v := .tuple #[msg0, .int .i64 2]) (by simp [results, Try.results63, go_sem, msg0]) rfl ⟨rfl, (Below.refl _ _).alloc (Nat.le_refl _) _⟩
theorem isP_two {w : World} (b : Nat) (hb : w.heap.size = b) {t : TypeId} {A P : Option Addr} {n c m d : Nat} {xs ps : List UInt8} (hx : IsB w w.heap.size A n xs) (hp : IsB w w.heap.size P m ps) (hn : n ≤ maxLen) (hm : m ≤ maxLen) :
    Sum.IsP (w.alloc (.cells #[.slice P m d, .slice A n c] t)) (w.alloc (.cells #[.slice P m d, .slice A n c] t)).heap.size (some ⟨b, 0, none⟩) 2 [⟨P, d, ps⟩, ⟨A, c, xs⟩] := by
  have e1 := hx.1
  have e2 := hp.1
  subst e1 e2 hb
  refine ⟨rfl, fun _ => ⟨w.heap.size, 0, rfl, by simp, fun i hi => ?_⟩, fun p hmem => ?_⟩
  · rw [blk_cell (blk_new _ _ _) (0 + i)]
    have hi' : i = 0 ∨ i = 1 := by simp at hi; omega
    rcases hi' with rfl | rfl <;> rfl
  · simp only [List.mem_cons, List.not_mem_nil, or_false] at hmem
    rcases hmem with rfl | rfl
    · exact ⟨hp.alloc _, hm⟩
    · exact ⟨hx.alloc _, hn⟩
set_option maxHeartbeats 1000000 in
theorem parse_sum (A P : Option Addr) (n c m d : Nat) (xs ps : List UInt8) (w : World) (hx : IsB w w.heap.size A n xs) (hp : IsB w w.heap.size P m ps) (hn : 8 ≤ n) (hnm : n ≤ maxLen) (hm : m ≤ maxLen) (hs : Sum.ones (Sum.tot false (ps ++ xs)) ≠ 65535) :
    Calls Try.prog 63 #[.slice A n c, .slice P m d] w fun e w' => e = .returned (.tuple #[msg0, .int .i64 13]) ∧ Below w.heap.size w w' := by
  have hx1 := hx.alloc (.cells #[.int .i64 0, .int .i64 0, .int .u32 0, .slice none 0 0] 100)
  have hp1 := hp.alloc (.cells #[.int .i64 0, .int .i64 0, .int .u32 0, .slice none 0 0] 100)
  have hps := isP_two (w.heap.size + 1) (by simp) (t := 22) (c := c) (d := d) hx1 hp1 hnm hm
  have hr : decide (Sum.ones (Sum.tot false (Sum.flat [⟨P, d, ps⟩, ⟨A, c, xs⟩])) = 65535) = false := by simpa [Sum.flat] using hs
  replace hps := hide hps
  replace hr := hide hr
  replace hx := hide hx
  replace hp := hide hp
  replace hx1 := hide hx1
  replace hp1 := hide hp1
  unfold maxLen at hnm
  go_enter Try.func63, Try.ntmps63
  go_wp2_with (go_at_call 53; refine (Sum.right_any _ _ _ _ _ hps.out (by unfold maxLen; omega) false hr.out).mono ?_; rintro e w' ⟨rfl, rfl⟩)
  exact bodyPost_ret (v := .tuple #[msg0, .int .i64 13]) (by simp [results, Try.results63, go_sem, msg0]) rfl ⟨rfl, ((Below.refl _ _).alloc (Nat.le_refl _) _).alloc (by simp) _⟩
set_option maxHeartbeats 2000000 in
theorem parse_ok (A P : Option Addr) (n c m d : Nat) (xs ps : List UInt8) (w : World) (hx : IsB w w.heap.size A n xs) (hp : IsB w w.heap.size P m ps) (hn : 8 ≤ n) (hnc : n ≤ c) (hnm : n ≤ 1099511627776) (hm : m ≤ maxLen) (hs : Sum.ones (Sum.tot false (ps ++ xs)) = 65535) :
    Calls Try.prog 63 #[.slice A n c, .slice P m d] w fun e w' => ∃ A' m' c', e = .returned (.tuple #[msgV xs A' m' c', .int .i64 0]) ∧ IsB w' w'.heap.size A' m' (xs.drop 8) ∧ m' ≤ c' ∧ c' ≤ maxLen ∧ Below w.heap.size w w' := by
  have hx1 := hx.alloc (.cells #[.int .i64 0, .int .i64 0, .int .u32 0, .slice none 0 0] 100)
  have hp1 := hp.alloc (.cells #[.int .i64 0, .int .i64 0, .int .u32 0, .slice none 0 0] 100)
  have hx2 := hx1.alloc (.cells #[.slice P m d, .slice A n c] 22)
  have hps := isP_two (w.heap.size + 1) (by simp) (t := 22) (c := c) (d := d) hx1 hp1 (by unfold maxLen; omega) hm
  have hr : decide (Sum.ones (Sum.tot false (Sum.flat [⟨P, d, ps⟩, ⟨A, c, xs⟩])) = 65535) = true := by simpa [Sum.flat] using hs
  obtain ⟨b, off, v0, rfl, hbl, hv0, hv0l, hc0⟩ := hx2.byte (i := 0) (by omega)
  obtain ⟨v1, hv1, hv1l, hc1⟩ := hx2.byteAt (i := 1) (by omega)
  have hbe := Octet.beN_bd8 xs 4 4 (by omega)
  have hbe4 : beN xs 4 4 < 4294967296 := beN_lt xs 4 4
  rw [Nat.add_zero] at hc0
  replace hps := hide hps
  replace hr := hide hr
  replace hs := hide hs
  replace hx := hide hx
  replace hp := hide hp
  replace hx1 := hide hx1
  replace hx2 := hide hx2
  replace hp1 := hide hp1
  replace hv0 := hide hv0
  replace hv1 := hide hv1
  replace hbe := hide hbe
  go_enter Try.func63, Try.ntmps63
  go_wp2_with (go_at_call 53; refine (Sum.right_any _ _ _ _ _ hps.out (by unfold maxLen; omega) true hr.out).mono ?_; rintro e w' ⟨rfl, rfl⟩)
  obtain ⟨w2, hw2⟩ : ∃ w2, ((w.alloc (.cells #[.int .i64 0, .int .i64 0, .int .u32 0, .slice none 0 0] 100)).alloc (.cells #[.slice P m d, .slice (some ⟨b, off, none⟩) n c] 22)) = w2 := ⟨_, rfl⟩
  have hb2 : Below w.heap.size w w2 := hw2 ▸ ((Below.refl _ _).alloc (Nat.le_refl _) _).alloc (by simp) _
  have hg2 : w2.heap[w.heap.size]? = some (.cells #[.int .i64 0, .int .i64 0, .int .u32 0, .slice none 0 0] 100 (0, 0)) := hw2 ▸ blk_old _ (by simp) (blk_new _ _ _)
  have hlt2 : w.heap.size < w2.heap.size := by rw [← hw2]; simp; omega
  rw [hw2] at hc0 hc1 hx2 ⊢
  clear hw2 hps hx1 hp1
  replace hb2 := hide hb2
  have hd0 : ∀ l : Later w2, l.w.cell? ⟨b, off, none⟩ = some (.int .u8 (v0 : Nat)) := fun l => l.cell hc0
  have hd1 : ∀ l : Later w2, l.w.cell? ⟨b, off + 1, none⟩ = some (.int .u8 (v1 : Nat)) := fun l => l.cell hc1
  clear hc0 hc1
  have hj0 : 0 < n := by omega
  have hj1 : 1 < n := by omega
  have hi0 : (0 : Int) < (n : Int) := by omega
  have hi1 : (1 : Int) < (n : Int) := by omega
  have hi8 : (8 : Int) ≤ (n : Int) := by omega
  obtain ⟨A8, hA8⟩ : ∃ A8, (if c = 8 then some (⟨b, off, none⟩ : Addr) else some ⟨b, off + 8, none⟩) = A8 := ⟨_, rfl⟩
  have hx8 : IsB w2 w2.heap.size A8 (n - 8) (xs.drop 8) := by
    have h8 := hx2.out.cut (k := 8) (m := n) (cap := c) (by omega) (Nat.le_refl _) hnc
    rw [List.take_of_length_le (by rw [hx2.out.1]; omega)] at h8
    rw [← hA8]
    exact h8
  replace hx8 := hide hx8
  refine wp_region_L (by kernel_rfl) ?_
  refine wpE_seg 0 13 (fuel := 4) (by kernel_rfl) (fun d _ _ _ _ h => by cases d <;> exact h) (by kernel_rfl) (by kernel_rfl) ?_
  simp only [List.drop_zero, List.take_succ_cons, List.take_zero]
  repeat (refine wpQE_step (fun K hK => ?_); go_simp; (try go_bits); first | (refine hK _ ?_; clear hK K) | (apply Exists.intro; refine ⟨fun l => ?_, hK _ ?_⟩; (go_at_call 39; refine (Octet.at_lit _ _ 4 4 rfl rfl _ _ _ xs _ (IsB.later hx2.out l) (by unfold maxLen; omega) (by omega) (by omega)).mono ?_; rintro e w' ⟨rfl, rfl⟩; exact ⟨rfl, lt_refl _⟩); clear hK K))
  refine wpQE_nil ?_
  refine wpE_step 13 (fuel := 3) rfl (by kernel_rfl) (fun l K hK => ?_)
  go_simp
  go_at_call 55
  refine (clone_any _ _ _ (xs.drop 8) _ ?_ (by omega)).mono ?_
  · exact IsB.later hx8.out l
  rintro e w3 ⟨v, rfl, hown, hb3⟩
  refine hK _ _ hb3 ?_
  clear hK K
  obtain ⟨A', c', rfl, hc', hm', hi'⟩ := hown.form
  refine wpE_seg 14 1 (fuel := 2) (by kernel_rfl) (fun d _ _ _ _ h => by cases d <;> exact h) (by kernel_rfl) (by kernel_rfl) ?_
  simp only [List.drop_succ_cons, List.drop_zero, List.take_succ_cons, List.take_zero]
  repeat (refine wpQE_step (fun K hK => ?_); go_simp; (try go_bits); first | (refine hK _ ?_; clear hK K))
  refine wpQE_nil ?_
  refine wpE_end (by kernel_rfl) (fun l2 => ?_)
  have hg3 : l2.w.heap[w.heap.size]? = some (.cells #[.int .i64 0, .int .i64 0, .int .u32 0, .slice none 0 0] 100 (0, 0)) :=
    blk_below l2.hb (Nat.lt_of_lt_of_le hlt2 (Nat.le_trans l.hb.size hb3.size)) (blk_below hb3 (Nat.lt_of_lt_of_le hlt2 l.hb.size) (blk_below l.hb hlt2 hg2))
  have hcg := blk_cell hg3
  have hfg := blk_free hg3
  have hb4 : Below w.heap.size w l2.w := ((hb2.out.trans (l.hb.mono (by omega))).trans (hb3.mono (Nat.le_trans (Nat.le_of_lt hlt2) l.hb.size))).trans (l2.hb.mono (Nat.le_trans (Nat.le_of_lt hlt2) (Nat.le_trans l.hb.size hb3.size)))
  replace hg3 := hide hg3
  replace hb4 := hide hb4
  refine wpT_step 15 rfl (by kernel_rfl) (fun K hK => ?_)
  go_simp
  refine hK _ _ ?_
  clear hK K
  refine wpT_step 16 rfl (by kernel_rfl) (fun K hK => ?_)
  go_simp
  refine hK _ _ ?_
  clear hK K
  refine wpT_done (by kernel_rfl) ?_ 0
  go_wp2
  have hown4 := hown.below l2.hb
  have hgr := grown_set (g := w.heap.size) (grown_set (grown_set (grown_set (grown_refl l2.w _) (p := ⟨w.heap.size, 0, none⟩) rfl (.int .i64 (v0 : Nat))) (p := ⟨w.heap.size, 1, none⟩) rfl (.int .i64 (v1 : Nat))) (p := ⟨w.heap.size, 2, none⟩) rfl (.int .u32 (beN xs 4 4 : Nat))) (p := ⟨w.heap.size, 3, none⟩) rfl (.slice A' (xs.drop 8).length c')
  have hown5 := hown4.kept hgr (by
    rcases hob : (Value.slice A' (xs.drop 8).length c').ownBlock with _ | k
    · exact .inl rfl
    · right
      intro e
      have h1 := (hown.lt k hob).1
      have h2 := l.hb.size
      cases e
      omega)
  obtain ⟨_, h5, h6, h7⟩ := hown5.reads
  simp only [List.length_drop] at h5 h7
  have hmv : msgV xs A' (xs.length - 8) c' = .agg #[.int .i64 (v0 : Nat), .int .i64 (v1 : Nat), .int .u32 (beN xs 4 4 : Nat), .slice A' (xs.length - 8) c'] := by unfold msgV; rw [hv0.out, hv1.out]
  refine bodyPost_ret (v := .tuple #[.agg #[.int .i64 (v0 : Nat), .int .i64 (v1 : Nat), .int .u32 (beN xs 4 4 : Nat), .slice A' (xs.length - 8) c'], .int .i64 0]) (by simp [results, Try.results63, go_sem, hcg]) rfl ⟨A', _, c', by rw [hmv], ?_, h5, h6, ?_⟩
  · simpa only [List.length_drop] using h7
  · exact (((hb4.out.setCell (p := ⟨w.heap.size, 0, none⟩) (Nat.le_refl _) _).setCell (p := ⟨w.heap.size, 1, none⟩) (Nat.le_refl _) _).setCell (p := ⟨w.heap.size, 2, none⟩) (Nat.le_refl _) _).setCell (p := ⟨w.heap.size, 3, none⟩) (Nat.le_refl _) _
end Icmp
end Go.Proofs.Ytdmgbngdpjcliaa
/- addr.Bytes by contract. Conditions: numbers of 64 bits. -/
namespace Go.Proofs.Ytdmgbngdpjcliaa
open Go.RowKit Go.ChangeShapes Go.WideShapes Go.ChangeAt Go.Deep
set_option maxHeartbeats 2000000 in
theorem addrPut_any (base : Nat) (v : Value) (xs : List UInt8) (N k : Nat) (w : World) (hown : OwnB w base v xs) (hbase : base ≤ w.heap.size) (_hN : N < 18446744073709551616) (hk : k ≤ 8) (hl : xs.length ≤ 549755813888) :
    Calls Try.prog 79 #[v, .int .u64 (N : Int), .int .i64 (k : Int)] w fun e w' => ∃ v', e = .returned v' ∧ OwnB w' base v' (xs ++ beB N k) ∧ Grew w v w' v' := by
  go_enter Try.func79, Try.ntmps79
  go_wp2_with fail
  go_loopw [0, 7] (fun u i wr => ∃ (j : Nat) (pre : List UInt8), j ≤ k ∧ i = .int .i64 ((j : Int) - 1) ∧ pre ++ beB N j = beB N k ∧ OwnB wr base u (xs ++ pre) ∧ Grew w v wr u) (fun _ i _ => (intOf i + 1).toNat)
  case atStart => exact ⟨k, [], Nat.le_refl _, rfl, rfl, by simpa using hown, Grew.refl _ _⟩
  case round =>
    obtain ⟨j, pre, hj, rfl, hpre, hu, hg⟩ := hrel
    have hpl : pre.length ≤ 8 := by
      have := congrArg List.length hpre
      rw [List.length_append, beB_length, beB_length] at this
      omega
    replace hpre := hide hpre
    replace hu := hide hu
    replace hg := hide hg
    rcases j with _ | i
    · go_wp2_with fail
      go_ret
      have h1 := hpre.out
      simp only [beB, List.append_nil] at h1
      exact ⟨_, rfl, h1 ▸ hu.out, hg.out⟩
    · have e1 : (((i + 1 : Nat) : Int) - 1) = (i : Int) := by omega
      rw [e1]
      have hps := pow_shift i (by omega)
      go_wp2_with (at_builtin; refine wpl_lit_bv rfl (.tmp 14) (.tmp 20) rfl base _ (xs ++ pre) [UInt8.ofNat (N / 256 ^ i)] 1 1 rfl rfl ?_ rfl ?_ ?_ ?_ ?_)
      · rw [List.map_cons, List.map_nil, ← u8v_mod]
        congr 3
        rw [Int.pow_mul]
        simp
      · exact hu.out
      · have := hg.out.grown.size
        omega
      · rw [List.length_append]; omega
      intro v' w' hown' hg'
      go_wp2_with fail
      refine ⟨⟨i, pre ++ [UInt8.ofNat (N / 256 ^ i)], by omega, by go_num, ?_, ?_, hg.out.trans hg'⟩, by simp [intOf] <;> omega⟩
      · have h1 := hpre.out
        simp only [beB] at h1
        rw [← h1]; simp
      · simpa using hown'
theorem addrPut_lit (Ni ki : Int) (N k : Nat) (hNi : Ni = (N : Int)) (hki : ki = (k : Int)) (base : Nat) (v : Value) (xs : List UInt8) (w : World) (hown : OwnB w base v xs) (hbase : base ≤ w.heap.size) (hN : N < 18446744073709551616) (hk : k ≤ 8) (hl : xs.length ≤ 549755813888) :
    Calls Try.prog 79 #[v, .int .u64 Ni, .int .i64 ki] w fun e w' => ∃ v', e = .returned v' ∧ OwnB w' base v' (xs ++ beB N k) ∧ Grew w v w' v' := by
  subst hNi hki
  exact addrPut_any base v xs N k w hown hbase hN hk hl
/-- An address's bytes. -/
def addrB (v6 : Bool) (hi lo : Nat) : List UInt8 := if v6 then beB hi 8 ++ beB lo 8 else beB lo 4
theorem addrB_length (v6 : Bool) (hi lo : Nat) : (addrB v6 hi lo).length ≤ 16 := by
  unfold addrB
  split <;> simp [beB_length]
set_option maxHeartbeats 2000000 in
theorem addrBytes_any (v6 : Bool) (hi lo : Nat) (w : World) (h1 : hi < 18446744073709551616) (h2 : lo < 18446744073709551616) :
    Calls Try.prog 45 #[addrV v6 hi lo] w fun e w' => ∃ v, e = .returned v ∧ OwnB w' w.heap.size v (addrB v6 hi lo) ∧ Below w.heap.size w w' := by
  have hbox := blk_new w 26 #[.bool v6, .int .u64 hi, .int .u64 lo]
  obtain ⟨w1, hw1⟩ : ∃ w1, w.alloc (.cells #[.bool v6, .int .u64 hi, .int .u64 lo] 26) = w1 := ⟨_, rfl⟩
  have hb1 : Below w.heap.size w w1 := hw1 ▸ (Below.refl _ _).alloc (Nat.le_refl _) _
  have hlt : w.heap.size < w1.heap.size := by rw [← hw1]; simp
  rw [hw1] at hbox
  have hcg := blk_cell hbox
  replace hb1 := hide hb1
  replace hbox := hide hbox
  rcases v6 with _ | _
  · unfold addrV
    go_enter Try.func45, Try.ntmps45
    go_wp2_with fail
    refine (addrPut_lit _ _ lo 4 rfl rfl w1.heap.size _ [] _ (OwnB.nil _ _) (Nat.le_refl _) h2 (by omega) (by simp)).mono ?_
    rintro e w2 ⟨v2, rfl, hown, hg⟩
    have hb2 := hg.belowNil
    replace hown := hide hown
    replace hb2 := hide hb2
    clear hg
    go_wp2_with fail
    go_ret
    exact ⟨_, rfl, by simpa [addrB] using hown.out.weaken (Nat.le_of_lt hlt), hb1.out.trans (hb2.out.mono (Nat.le_of_lt hlt))⟩
  · unfold addrV
    have hcl : ∀ (l : Later w1) (o : Nat), l.w.cell? ⟨w.heap.size, o, none⟩ = _ := fun l o => blk_cell (blk_below l.hb hlt hbox.out) o
    go_enter Try.func45, Try.ntmps45
    go_wp2_with fail
    clear hw1
    refine wp_region_L (by kernel_rfl) ?_
    refine wpE_seg 0 2 (fuel := 5) (by kernel_rfl) (fun d _ _ _ _ h => by cases d <;> exact h) (by kernel_rfl) (by kernel_rfl) ?_
    simp only [List.drop_zero, List.take_succ_cons, List.take_zero]
    iterate 2 (refine wpQE_step (fun K hK => ?_); go_simp; refine hK _ ?_; clear hK K)
    refine wpQE_nil ?_
    refine wpE_seg 3 2 (fuel := 3) (by kernel_rfl) (fun d _ _ _ _ h => by cases d <;> exact h) (by kernel_rfl) (by kernel_rfl) ?_
    simp only [List.drop_succ_cons, List.drop_zero, List.take_succ_cons, List.take_zero]
    iterate 2 (refine wpQE_step (fun K hK => ?_); go_simp; refine hK _ ?_; clear hK K)
    refine wpQE_nil ?_
    clear hcl
    refine wpE_step 2 (fuel := 2) rfl (by kernel_rfl) (fun l K hK => ?_)
    go_simp
    go_at_call 79
    refine (addrPut_lit _ _ hi 8 rfl rfl l.w.heap.size _ [] _ (OwnB.nil _ _) (Nat.le_refl _) h1 (by omega) (by simp)).mono ?_
    rintro e w2 ⟨v2, rfl, hown, hg⟩
    have hb2 := hg.belowNil
    clear hg
    refine hK _ _ hb2 ?_
    clear hK K
    refine wpE_end (by kernel_rfl) (fun l2 => ?_)
    have hown2 := hown.below l2.hb
    have hb3 : Below w1.heap.size w1 l2.w := (l.hb.trans (hb2.mono l.hb.size)).trans (l2.hb.mono (Nat.le_trans l.hb.size hb2.size))
    refine wpT_step 5 rfl (by kernel_rfl) (fun K hK => ?_)
    go_simp
    go_at_call 79
    refine (addrPut_lit _ _ lo 8 rfl rfl l.w.heap.size _ _ _ hown2 (Nat.le_trans hb2.size l2.hb.size) h2 (by omega) (by simp [beB_length])).mono ?_
    rintro e w4 ⟨v4, rfl, hown4, hg4⟩
    have hb4 := hg4.below hown2 (Nat.le_trans hb2.size l2.hb.size)
    refine hK _ _ ?_
    clear hK K
    refine wpT_step 6 rfl (by kernel_rfl) (fun K hK => ?_)
    go_simp
    refine hK _ _ ?_
    clear hK K
    refine wpT_done (by kernel_rfl) ?_ 0
    have hbf := hb1.out.trans ((hb3.trans (hb4.mono l.hb.size)).mono (Nat.le_of_lt hlt))
    have hof := hown4.weaken (Nat.le_trans (Nat.le_of_lt hlt) l.hb.size)
    clear hown hown2 hg4 hb4 hown4 hb2 hb3
    replace hbf := hide hbf
    replace hof := hide hof
    go_wp2_with fail
    go_ret
    exact ⟨_, rfl, by simpa [addrB] using hof.out, hbf.out⟩
end Go.Proofs.Ytdmgbngdpjcliaa
/- make of a slice of bytes. Condition: at most 2^40. -/
namespace Go.Proofs.Ytdmgbngdpjcliaa
open Go.RowKit Go.ChangeShapes Go.WideShapes Go.ChangeAt Go.Deep
theorem make_bytes (n : Nat) (hn : n ≤ 1099511627776) (w : World) : ∃ w', (Instr.makeSlice 22 (.int .i64 (n : Int)) (.int .i64 (n : Int))).run Try.prog w = .ok (.slice (some ⟨w.heap.size, 0, none⟩) n n) w' ∧
    OwnB w' w.heap.size (.slice (some ⟨w.heap.size, 0, none⟩) n n) (List.replicate n 0) ∧ Below w.heap.size w w' := by
  have hi := info_u8
  cases hq : Try.prog.info? 5 with
  | none => rw [hq] at hi; simp at hi
  | some i =>
    rw [hq] at hi
    simp only [Option.map_some, Option.some.injEq, Prod.mk.injEq] at hi
    obtain ⟨hz, hs, hb⟩ := hi
    obtain ⟨w', h1, h2, h3⟩ := run_make_full (P := Try.prog) (w := w) w.heap.size 22 5 i (.int .u8 0) 1 Try.underlying22 hq hz hs .i64 .i64 n (by rw [hb]; omega) (by unfold maxLen; omega) (Nat.le_refl _)
    refine ⟨w', h1, ?_, below_of_grown h3 (Nat.le_refl _) (fun k hk => by cases hk)⟩
    unfold OwnB
    rw [List.length_replicate, List.map_replicate]
    rw [show (Value.int IntKind.u8 0).cells = #[.int .u8 0] from rfl, Nat.mul_one, toList_madeCells_one] at h2
    exact h2
end Go.Proofs.Ytdmgbngdpjcliaa
