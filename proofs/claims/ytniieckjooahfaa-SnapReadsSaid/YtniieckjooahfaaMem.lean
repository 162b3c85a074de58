/- Words on memory that a call makes: slices that read as values, append onto a row of the call's own. Conditions: sizes below 2^40. -/
import Derived.Test.YtniieckjooahfaaBytes
import Derived.Test.YtniieckjooahfaaProg
import Derived.Maps.AppendAt
import Derived.OwnWalk
namespace Go.Proofs.Ytniieckjooahfaa
open Go.RowKit Go.ChangeShapes Go.WideShapes Go.ChangeAt Go.Deep

/-- The slice '.slice A n c' reads as the cells vs (size cells an element), below block B. -/
def IsV (w : World) (B size : Nat) (A : Option Addr) (n : Nat) (vs : List Value) : Prop :=
  vs.length = n * size ∧ (0 < n → ∃ b off, A = some ⟨b, off, none⟩ ∧ b < B ∧ ∀ i (h : i < vs.length), w.cell? ⟨b, off + i, none⟩ = some vs[i])
section
variable {w w' : World} {B B' size n : Nat} {A : Option Addr} {vs : List Value}
theorem IsV.nil (w : World) (B size : Nat) (A : Option Addr) : IsV w B size A 0 [] := ⟨by simp, fun h => absurd h (by omega)⟩
theorem IsV.keep (h : IsV w B size A n vs) (hk : ∀ p : Addr, p.block < B → w'.cell? p = w.cell? p) : IsV w' B size A n vs :=
  ⟨h.1, fun hn => by
    obtain ⟨b, off, e, hb, hc⟩ := h.2 hn
    exact ⟨b, off, e, hb, fun i hi => (hk _ hb).trans (hc i hi)⟩⟩
theorem IsV.more (h : IsV w B size A n vs) (hB : B ≤ B') : IsV w B' size A n vs :=
  ⟨h.1, fun hn => by
    obtain ⟨b, off, e, hb, hc⟩ := h.2 hn
    exact ⟨b, off, e, by omega, hc⟩⟩
theorem IsV.below (h : IsV w B size A n vs) (hb : Below B w w') : IsV w' B size A n vs := h.keep fun _ hp => hb.cell hp
theorem IsV.on (h : IsV w w.heap.size size A n vs) (hb : Below w.heap.size w w') : IsV w' w'.heap.size size A n vs := (h.below hb).more hb.size
theorem IsB.vals {xs : List UInt8} (h : IsB w B A n xs) : IsV w B 1 A n (xs.map u8v) :=
  ⟨by simp [h.1], fun hn => by
    obtain ⟨b, off, e, hb, hc⟩ := h.2 hn
    exact ⟨b, off, e, hb, fun i hi => by rw [List.length_map] at hi; rw [hc i hi, List.getElem_map]⟩⟩
/-- A block of the call's own that has just been made, as a source. -/
theorem IsV.lit (w : World) (t : TypeId) (vs : List Value) (_c m : Nat) (hc : vs.length = m * size) : IsV (w.alloc (.cells vs.toArray t)) (w.heap.size + 1) size (some ⟨w.heap.size, 0, none⟩) m vs :=
  ⟨hc, fun _ => ⟨_, 0, rfl, by omega, fun i hi => by
    rw [blk_cell (blk_new w t vs.toArray) (0 + i)]
    simp [hi]⟩⟩
end

section
variable {P : Program} (w : World)
theorem append_nothing (base : Nat) (t ty e : TypeId) (i : TypeInfo) (size : Nat) (ht : P.underlying t = some (.slice e)) (hi : P.info? e = some i)
    (v : Value) (n : Nat) (xs : List Value) (hown : w.ownsRow base e size v n xs) (c : Nat) (_A : Option Addr) : (Builtin.append_ #[t, t] ty #[v, .slice none 0 c]).run P w = .ok v w := by
  rcases hown.2 with ⟨rfl, rfl⟩ | ⟨g, cap, cur, rfl, _, _, hnc, _⟩
  · simp [Builtin.append_, run_underlying ht, sizeOf, typeInfo, hi, Builtin.lenOf, Builtin.firstCells]
  · simp [Builtin.append_, run_underlying ht, sizeOf, typeInfo, hi, Builtin.lenOf, Builtin.firstCells, hnc, storeCells]

theorem run_append_isv (base : Nat) (t ty e : TypeId) (i : TypeInfo) (z : Value) (size bytes : Nat) (ht : P.underlying t = some (.slice e)) (hi : P.info? e = some i) (hz : i.zero = some z)
    (hsize : i.size = size) (hby : i.bytes = bytes) (hzs : z.cells.size = size) (hsz : 0 < size)
    (v : Value) (n : Nat) (xs : List Value) (hown : w.ownsRow base e size v n xs)
    (B : Nat) (A : Option Addr) (m c : Nat) (news : List Value) (hr : IsV w B size A m news) (h1 : ∀ u ∈ news, u.oneCell' = true)
    (h63 : n + m ≤ maxLen) (hbytes : (n + m) * bytes ≤ 140737488355328) (hbase : base ≤ w.heap.size) :
    ∃ v' w', (Builtin.append_ #[t, t] ty #[v, .slice A m c]).run P w = .ok v' w' ∧ w'.ownsRow base e size v' (n + m) (xs ++ news) ∧ w.grownBy w' v.ownBlock ∧
      (v'.ownBlock = v.ownBlock ∨ v'.ownBlock = some w.heap.size) := by
  have hzero : m = 0 → news = [] := fun h0 => List.eq_nil_of_length_eq_zero (by rw [hr.1, h0]; simp)
  rcases A with _ | ad
  · have hm : m = 0 := by
      rcases Nat.eq_zero_or_pos m with h0 | h0
      · exact h0
      · obtain ⟨_, _, h, _⟩ := hr.2 h0
        cases h
    have hn := hzero hm
    subst hm hn
    exact ⟨v, w, append_nothing w base t ty e i size ht hi v n xs hown c none, by simpa using hown, World.grownBy.refl w _, .inl rfl⟩
  · have hcells : ∀ j u, news[j]? = some u → w.cell? (ad.add j) = some u := by
      intro j u hu
      rcases Nat.eq_zero_or_pos m with h0 | h0
      · rw [hzero h0] at hu
        cases hu
      · obtain ⟨b, off, h, _, hc⟩ := hr.2 h0
        cases h
        obtain ⟨hj, rfl⟩ := List.getElem?_eq_some_iff.1 hu
        rw [← hc j hj]
        congr 1
        unfold Addr.add
        split
        · rename_i h0; subst h0; rfl
        · rfl
    obtain ⟨v', w', hrun, h2, h3, _, h5⟩ := run_append_own_at (P := P) w base t ty e i z size bytes ht hi hz hsize hby hzs hsz v n xs hown ad m c news hr.1 hcells h1 h63 hbytes hbase
    exact ⟨v', w', hrun, h2, h3, h5⟩

theorem wp_append_isv {o : Oper} {a : Act} {K : Act → World → Prop} {Q : Exit → Act → World → Prop} (s x : Operand) (t : TypeId)
    (ho : o.op = .call { callee := .builtin .append, args := #[s, x], argTypes := #[t, t] })
    (base : Nat) (e : TypeId) (i : TypeInfo) (z : Value) (size bytes : Nat) (ht : P.underlying t = some (.slice e)) (hi : P.info? e = some i) (hz : i.zero = some z)
    (hsize : i.size = size) (hby : i.bytes = bytes) (hzs : z.cells.size = size) (hsz : 0 < size)
    (v : Value) (n : Nat) (xs : List Value) (hs : a.eval s = v) (hown : w.ownsRow base e size v n xs)
    (B : Nat) (A : Option Addr) (m c : Nat) (news : List Value) (hx : a.eval x = .slice A m c) (hr : IsV w B size A m news) (h1 : ∀ u ∈ news, u.oneCell' = true)
    (h63 : n + m ≤ maxLen) (hbytes : (n + m) * bytes ≤ 140737488355328) (hbase : base ≤ w.heap.size)
    (h : ∀ v' w', w'.ownsRow base e size v' (n + m) (xs ++ news) → w.grownBy w' v.ownBlock → (v'.ownBlock = v.ownBlock ∨ v'.ownBlock = some w.heap.size) → K (a.put o.dst v') w') : o.wp P a w K Q := by
  obtain ⟨v', w', hrun, h2, h3, h4⟩ := run_append_isv (P := P) w base t o.type e i z size bytes ht hi hz hsize hby hzs hsz v n xs hown B A m c news hr h1 h63 hbytes hbase
  unfold Oper.wp execOp
  simp only [ho, resolve, invoke, builtin, Sem.run_bind, Sem.run_pure, Result.andThen_ok, List.map_toArray, List.map_cons, List.map_nil, hs, hx, hrun]
  exact h v' w' h2 h3 h4

theorem wpl_append {ops : Array Oper} {rest : List Oper} {o : Oper} {a : Act} {Q : Exit → Act → World → Prop} (hgd : o.guard = none) (s x : Operand) (t : TypeId)
    (ho : o.op = .call { callee := .builtin .append, args := #[s, x], argTypes := #[t, t] })
    (base : Nat) (e : TypeId) (i : TypeInfo) (z : Value) (size bytes : Nat) (ht : P.underlying t = some (.slice e)) (hi : P.info? e = some i) (hz : i.zero = some z)
    (hsize : i.size = size) (hby : i.bytes = bytes) (hzs : z.cells.size = size) (hsz : 0 < size)
    (v : Value) (n : Nat) (xs : List Value) (hs : a.eval s = v) (hown : w.ownsRow base e size v n xs)
    (B : Nat) (A : Option Addr) (m c : Nat) (news : List Value) (hx : a.eval x = .slice A m c) (hr : IsV w B size A m news) (h1 : ∀ u ∈ news, u.oneCell' = true)
    (h63 : n + m ≤ maxLen) (hbytes : (n + m) * bytes ≤ 140737488355328) (hbase : base ≤ w.heap.size)
    (h : ∀ v' w', w'.ownsRow base e size v' (n + m) (xs ++ news) → w.grownBy w' v.ownBlock → (v'.ownBlock = v.ownBlock ∨ v'.ownBlock = some w.heap.size) → wpList P ops Q rest (a.put o.dst v') w') : wpList P ops Q (o :: rest) a w :=
  wpList_plain hgd fun _ hK => wp_append_isv w s x t ho base e i z size bytes ht hi hz hsize hby hzs hsz v n xs hs hown B A m c news hx hr h1 h63 hbytes hbase fun v' w' h2 h3 h4 => hK _ _ (h v' w' h2 h3 h4)
end

/-! ### Rows of bytes and of ints -/
theorem info_u8 : (Try.prog.info? 5).map (fun i => (i.zero, i.size, i.bytes)) = some (some (.int .u8 0), 1, 1) := by kernel_rfl
theorem info_int : (Try.prog.info? 3).map (fun i => (i.zero, i.size, i.bytes)) = some (some (.int .i64 0), 1, 8) := by kernel_rfl
def OwnB (w : World) (base : Nat) (v : Value) (xs : List UInt8) : Prop := w.ownsRow base 5 1 v xs.length (xs.map u8v)
def OwnI (w : World) (base : Nat) (v : Value) (xs : List Int) : Prop := w.ownsRow base 3 1 v xs.length (xs.map (Value.int .i64))
theorem u8v_one (xs : List UInt8) : ∀ u ∈ xs.map u8v, u.oneCell' = true := by
  intro u hu
  obtain ⟨_, _, rfl⟩ := List.mem_map.1 hu
  rfl
section
variable {w w' : World} {base : Nat} {v : Value}
theorem OwnB.nil (w : World) (base : Nat) : OwnB w base (.slice none 0 0) [] := World.ownsRow_nil w base _ 1
theorem OwnI.nil (w : World) (base : Nat) : OwnI w base (.slice none 0 0) [] := World.ownsRow_nil w base _ 1
theorem OwnB.lt {xs : List UInt8} (h : OwnB w base v xs) : ∀ k, v.ownBlock = some k → base ≤ k ∧ k < w.heap.size := World.ownsRow.lt h
/-- What an owned row's value is, and that it reads as its cells. -/
theorem own_isv {e : TypeId} {size n : Nat} {xs : List Value} (h : w.ownsRow base e size v n xs) : ∃ A c, v = .slice A n c ∧ n ≤ c ∧ c ≤ maxLen ∧ IsV w w.heap.size size A n xs := by
  rcases h.2 with ⟨rfl, h0⟩ | ⟨g, cap, cur, rfl, hg, hh, hn, hm, hs, ht⟩
  · exact ⟨none, 0, by rw [h0], by omega, by omega, h.1, fun hp => by omega⟩
  · refine ⟨some ⟨g, 0, none⟩, cap, rfl, hn, hm, h.1, fun hp => ⟨g, 0, rfl, ?_, fun i hi => ?_⟩⟩
    · rcases Nat.lt_or_ge g w.heap.size with h' | h'
      · exact h'
      · rw [Array.getElem?_eq_none h'] at hh; cases hh
    · have h1 : xs[i]? = cur[i]? := by
        rw [← ht, List.getElem?_take_of_lt (by rw [← h.1]; exact hi)]
        simp
      rw [blk_cell hh (0 + i), Nat.zero_add, ← h1, List.getElem?_eq_getElem hi]
theorem IsV.bytes {B n : Nat} {A : Option Addr} {xs : List UInt8} (h : IsV w B 1 A n (xs.map u8v)) : IsB w B A n xs :=
  ⟨by simpa using h.1, fun hn => by
    obtain ⟨b, off, e, hb, hc⟩ := h.2 hn
    refine ⟨b, off, e, hb, fun i hi => ?_⟩
    have := hc i (by simpa using hi)
    rw [List.getElem_map] at this
    exact this⟩
/-- What its value is, and that it reads as its bytes. -/
theorem OwnB.form {xs : List UInt8} (h : OwnB w base v xs) : ∃ A c, v = .slice A xs.length c ∧ xs.length ≤ c ∧ c ≤ maxLen ∧ IsB w w.heap.size A xs.length xs := by
  obtain ⟨A, c, e, h1, h2, h3⟩ := own_isv h
  exact ⟨A, c, e, h1, h2, h3.bytes⟩
theorem OwnI.form {xs : List Int} (h : OwnI w base v xs) : ∃ A c, v = .slice A xs.length c ∧ xs.length ≤ c ∧ c ≤ maxLen ∧ IsV w w.heap.size 1 A xs.length (xs.map (Value.int .i64)) := own_isv h
/-- What stands written out ('[]byte{..}') is a row of the call's own. -/
theorem OwnB.lit (w : World) (base : Nat) (ys : List UInt8) (hb : base ≤ w.heap.size) (hl : ys.length ≤ 1099511627776) : OwnB (w.alloc (.cells (ys.map u8v).toArray 5)) base (.slice (some ⟨w.heap.size, 0, none⟩) ys.length ys.length) ys :=
  ⟨by simp, .inr ⟨w.heap.size, ys.length, (ys.map u8v).toArray, rfl, hb, heap_alloc_new w _, Nat.le_refl _, by unfold maxLen; omega, by simp, by simp [List.take_of_length_le]⟩⟩
theorem u8v_nat (t : Nat) (h : t ≤ 255) : u8v (UInt8.ofNat t) = .int .u8 (t : Int) := by
  unfold u8v
  rw [UInt8.toNat_ofNat', Nat.mod_eq_of_lt (by omega)]
theorem OwnB.litv (w : World) (base : Nat) (vals : List Value) (ys : List UInt8) (m : Nat) (hv : vals = ys.map u8v) (hm : ys.length = m) (hb : base ≤ w.heap.size) (hl : m ≤ 1099511627776) : OwnB (w.alloc (.cells vals.toArray 5)) base (.slice (some ⟨w.heap.size, 0, none⟩) m m) ys := by
  subst hv hm
  exact OwnB.lit w base ys hb hl
theorem OwnB.empty (w : World) (base : Nat) (hb : base ≤ w.heap.size) : OwnB (w.alloc (.cells #[] 5)) base (.slice (some ⟨w.heap.size, 0, none⟩) 0 0) [] := OwnB.lit w base [] hb (by simp)
theorem OwnB.emptyAt (w : World) (b : Nat) (hw : w.heap.size = b) (base : Nat) (hb : base ≤ b) : OwnB (w.alloc (.cells #[] 5)) base (.slice (some ⟨b, 0, none⟩) 0 0) [] := by subst hw; exact OwnB.empty w base hb
theorem OwnB.reads {A : Option Addr} {n c : Nat} {xs : List UInt8} (h : OwnB w base (.slice A n c) xs) : xs.length = n ∧ n ≤ c ∧ c ≤ maxLen ∧ IsB w w.heap.size A n xs := by
  obtain ⟨A', c', e, h1, h2, h3⟩ := h.form
  cases e
  exact ⟨rfl, h1, h2, h3⟩
theorem grown_refl (w : World) (row : Option Nat) : w.grownBy w row := ⟨rfl, rfl, rfl, Nat.le_refl _, fun _ _ _ => rfl⟩
theorem grown_set {a : World} {g : Nat} (h : a.grownBy w (some g)) {p : Addr} (hp : p.block = g) (u : Value) : a.grownBy (w.setCell p u) (some g) :=
  ⟨h.os, h.tape, h.output, by simpa [World.setCell] using h.size, fun k hk hne => (Below.heap_setCell w p u k (fun e => hne (by rw [e, hp]))).trans (h.block k hk hne)⟩
theorem OwnB.store {g n c : Nat} {xs : List UInt8} (h : OwnB w base (.slice (some ⟨g, 0, none⟩) n c) xs) (j : Nat) (y : UInt8) : OwnB (w.setCell ⟨g, j, none⟩ (u8v y)) base (.slice (some ⟨g, 0, none⟩) n c) (xs.set j y) := by
  have hl := h.reads.1
  subst hl
  have h1 := (World.ownsRow.stored h j (u8v y)).1
  unfold OwnB
  rw [List.length_set, List.map_set]
  exact h1
theorem OwnB.weaken {base' : Nat} {xs : List UInt8} (h : OwnB w base v xs) (hb : base' ≤ base) : OwnB w base' v xs :=
  ⟨h.1, h.2.imp id fun ⟨g, cap, cur, h1, h2, h3⟩ => ⟨g, cap, cur, h1, Nat.le_trans hb h2, h3⟩⟩
theorem OwnB.kept {xs : List UInt8} {row : Option Nat} (h : OwnB w base v xs) (hg : w.grownBy w' row) (hne : v.ownBlock = none ∨ v.ownBlock ≠ row) : OwnB w' base v xs := World.ownsRow.kept h hg hne
theorem OwnB.alloc {xs : List UInt8} (h : OwnB w base v xs) (o : Obj) : OwnB (w.alloc o) base v xs := World.ownsRow.alloc h o
theorem OwnI.alloc {xs : List Int} (h : OwnI w base v xs) (o : Obj) : OwnI (w.alloc o) base v xs := World.ownsRow.alloc h o
theorem OwnB.below {xs : List UInt8} (h : OwnB w base v xs) (hb : Below w.heap.size w w') : OwnB w' base v xs :=
  h.kept (row := none) ⟨hb.os, hb.tape, hb.output, hb.size, fun k hk _ => hb.block k hk⟩ (by cases v.ownBlock <;> simp)
end

/-- append of bytes onto a row of bytes of the call's own. -/
theorem wpl_append_b (w : World) {ops : Array Oper} {rest : List Oper} {o : Oper} {a : Act} {Q : Exit → Act → World → Prop} (hgd : o.guard = none) (s x : Operand)
    (ho : o.op = .call { callee := .builtin .append, args := #[s, x], argTypes := #[35, 35] })
    (base : Nat) (v : Value) (xs : List UInt8) (hs : a.eval s = v) (hown : OwnB w base v xs) (hbase : base ≤ w.heap.size)
    (B : Nat) (A : Option Addr) (m c : Nat) (ys : List UInt8) (hx : a.eval x = .slice A m c) (hr : IsV w B 1 A m (ys.map u8v)) (hb : xs.length + m ≤ 1099511627776)
    (h : ∀ v' w', OwnB w' base v' (xs ++ ys) → w.grownBy w' v.ownBlock → (v'.ownBlock = v.ownBlock ∨ v'.ownBlock = some w.heap.size) → wpList Try.prog ops Q rest (a.put o.dst v') w') : wpList Try.prog ops Q (o :: rest) a w := by
  obtain ⟨i, hi, hz, hsz, hby⟩ := info_parts info_u8
  have hm : ys.length = m := by simpa using hr.1
  refine wpl_append w hgd s x 35 ho base 5 i _ 1 1 Try.underlying35 hi hz hsz hby rfl (by omega) v xs.length (xs.map u8v) hs hown B A m c (ys.map u8v) hx hr (u8v_one ys) (by unfold maxLen; omega) (by omega) hbase fun v' w' h1 h2 h3 => h v' w' ?_ h2 h3
  unfold OwnB
  rw [List.map_append, List.length_append, hm]
  exact h1
theorem wpl_append_i (w : World) {ops : Array Oper} {rest : List Oper} {o : Oper} {a : Act} {Q : Exit → Act → World → Prop} (hgd : o.guard = none) (s x : Operand)
    (ho : o.op = .call { callee := .builtin .append, args := #[s, x], argTypes := #[119, 119] })
    (base : Nat) (v : Value) (xs : List Int) (hs : a.eval s = v) (hown : OwnI w base v xs) (hbase : base ≤ w.heap.size)
    (B : Nat) (A : Option Addr) (m c : Nat) (ys : List Int) (hx : a.eval x = .slice A m c) (hr : IsV w B 1 A m (ys.map (Value.int .i64))) (hb : xs.length + m ≤ 1099511627776)
    (h : ∀ v' w', OwnI w' base v' (xs ++ ys) → w.grownBy w' v.ownBlock → (v'.ownBlock = v.ownBlock ∨ v'.ownBlock = some w.heap.size) → wpList Try.prog ops Q rest (a.put o.dst v') w') : wpList Try.prog ops Q (o :: rest) a w := by
  obtain ⟨i, hi, hz, hsz, hby⟩ := info_parts info_int
  have hm : ys.length = m := by simpa using hr.1
  refine wpl_append w hgd s x 119 ho base 3 i _ 1 8 Try.underlying119 hi hz hsz hby rfl (by omega) v xs.length (xs.map (Value.int .i64)) hs hown B A m c (ys.map (Value.int .i64)) hx hr (ints_oneCell .i64 ys) (by unfold maxLen; omega) (by omega) hbase fun v' w' h1 h2 h3 => h v' w' ?_ h2 h3
  unfold OwnI
  rw [List.map_append, List.length_append, hm]
  exact h1
/-! ### append of what stands written out (its block has just been made), and of a slice that reads; in the words of a walk -/
/-- Where the row lies now: where it lay, or in a block that is new since w. -/
def Moved (w : World) (v v' : Value) : Prop := v'.ownBlock = v.ownBlock ∨ ∃ k, v'.ownBlock = some k ∧ w.heap.size ≤ k
theorem below_of_grown {w w' : World} {base : Nat} {row : Option Nat} (hg : w.grownBy w' row) (hb : base ≤ w.heap.size) (hr : ∀ k, row = some k → base ≤ k) : Below base w w' := (Below.refl base w).grown hg hb hr
theorem grown_alloc_left {w w' : World} {o : Obj} {row : Option Nat} (hg : (w.alloc o).grownBy w' row) : w.grownBy w' row :=
  ⟨hg.os, hg.tape, hg.output, by have := hg.size; simp at this; omega, fun k hk hne => (hg.block k (by simp; omega) hne).trans (Below.heap_alloc w o k hk)⟩
theorem moved_mk {w : World} {o : Obj} {v v' : Value} (h : v'.ownBlock = v.ownBlock ∨ v'.ownBlock = some (w.alloc o).heap.size) : Moved w v v' := h.imp id fun e => ⟨_, e, by simp⟩
theorem moved_mk' {w : World} {v v' : Value} (h : v'.ownBlock = v.ownBlock ∨ v'.ownBlock = some w.heap.size) : Moved w v v' := h.imp id fun e => ⟨_, e, Nat.le_refl _⟩

/-- From (w, v) to (w', v'): a row of the call's own was appended to; only its block has turned, or it has moved to a new one. -/
structure Grew (w : World) (v : Value) (w' : World) (v' : Value) : Prop where
  grown : w.grownBy w' v.ownBlock
  moved : Moved w v v'
theorem Grew.refl (w : World) (v : Value) : Grew w v w v := ⟨grown_refl _ _, .inl rfl⟩
theorem Grew.trans {w w1 w2 : World} {v v1 v2 : Value} (h : Grew w v w1 v1) (k : Grew w1 v1 w2 v2) : Grew w v w2 v2 := by
  have hz := h.grown.size
  refine ⟨⟨k.grown.os.trans h.grown.os, k.grown.tape.trans h.grown.tape, k.grown.output.trans h.grown.output, Nat.le_trans hz k.grown.size, fun i hi hne => ?_⟩, ?_⟩
  · refine (k.grown.block i (by omega) ?_).trans (h.grown.block i hi hne)
    rcases h.moved with e | ⟨j, e, hj⟩
    · rw [e]; exact hne
    · rw [e]; intro e'; cases e'; omega
  · rcases k.moved with e | ⟨j, e, hj⟩
    · rcases h.moved with e' | ⟨j, e', hj⟩
      · exact .inl (e.trans e')
      · exact .inr ⟨j, e.trans e', hj⟩
    · exact .inr ⟨j, e, by omega⟩
theorem Grew.below {w w' : World} {v v' : Value} {base : Nat} {xs : List UInt8} (h : Grew w v w' v') (hown : OwnB w base v xs) (hb : base ≤ w.heap.size) : Below base w w' := below_of_grown h.grown hb fun k hk => (hown.lt k hk).1
theorem Grew.belowNil {w w' : World} {v' : Value} {n c : Nat} (h : Grew w (.slice none n c) w' v') : Below w.heap.size w w' := below_of_grown h.grown (Nat.le_refl _) fun k hk => by cases hk
/-- What lies elsewhere reads on as it did. -/
theorem Grew.keeps {w w' : World} {v v' u : Value} {base : Nat} {ys : List UInt8} (h : Grew w v w' v') (hu : OwnB w base u ys) (hne : u.ownBlock = none ∨ u.ownBlock ≠ v.ownBlock) : OwnB w' base u ys := hu.kept h.grown hne
theorem Grew.isB {w w' : World} {v v' : Value} {base B n : Nat} {A : Option Addr} {xs ys : List UInt8} (h : Grew w v w' v') (hown : OwnB w base v xs) (hb : base ≤ w.heap.size) (hi : IsB w B A n ys) (hB : B ≤ base) : IsB w' B A n ys := hi.below ((h.below hown hb).mono hB)

theorem wpl_lit_b {w : World} {t : TypeId} {ops : Array Oper} {rest : List Oper} {o : Oper} {a : Act} {Q : Exit → Act → World → Prop} (hgd : o.guard = none) (s x : Operand)
    (ho : o.op = .call { callee := .builtin .append, args := #[s, x], argTypes := #[35, 35] })
    (base : Nat) (v : Value) (xs ys : List UInt8) (c : Nat) (hs : a.eval s = v) (hx : a.eval x = .slice (some ⟨w.heap.size, 0, none⟩) ys.length c) (hown : OwnB w base v xs) (hbase : base ≤ w.heap.size) (hb : xs.length + ys.length ≤ 1099511627776)
    (h : ∀ v' w', OwnB w' base v' (xs ++ ys) → Below base w w' → w.grownBy w' v.ownBlock → Moved w v v' → wpList Try.prog ops Q rest (a.put o.dst v') w') : wpList Try.prog ops Q (o :: rest) a (w.alloc (.cells (ys.map u8v).toArray t)) :=
  wpl_append_b _ hgd s x ho base v xs hs (hown.alloc _) (by simp; omega) (w.heap.size + 1) _ ys.length c ys hx (IsV.lit w t _ c _ (by simp)) hb fun v' w' h1 h2 h3 =>
    h v' w' h1 (below_of_grown (grown_alloc_left h2) hbase fun k hk => (hown.lt k hk).1) (grown_alloc_left h2) (moved_mk h3)
/-- The same, the cells as the walk spells them. -/
theorem wpl_lit_bv {w : World} {t : TypeId} {vals : List Value} {ops : Array Oper} {rest : List Oper} {o : Oper} {a : Act} {Q : Exit → Act → World → Prop} (hgd : o.guard = none) (s x : Operand)
    (ho : o.op = .call { callee := .builtin .append, args := #[s, x], argTypes := #[35, 35] })
    (base : Nat) (v : Value) (xs ys : List UInt8) (m c : Nat) (hs : a.eval s = v) (hx : a.eval x = .slice (some ⟨w.heap.size, 0, none⟩) m c) (hv : vals = ys.map u8v) (hm : ys.length = m) (hown : OwnB w base v xs) (hbase : base ≤ w.heap.size) (hb : xs.length + m ≤ 1099511627776)
    (h : ∀ v' w', OwnB w' base v' (xs ++ ys) → Grew w v w' v' → wpList Try.prog ops Q rest (a.put o.dst v') w') : wpList Try.prog ops Q (o :: rest) a (w.alloc (.cells vals.toArray t)) := by
  subst hv hm
  exact wpl_lit_b hgd s x ho base v xs ys c hs hx hown hbase hb fun v' w' h1 _ h3 h4 => h v' w' h1 ⟨h3, h4⟩
theorem wpl_src_bv {w : World} {ops : Array Oper} {rest : List Oper} {o : Oper} {a : Act} {Q : Exit → Act → World → Prop} (hgd : o.guard = none) (s x : Operand)
    (ho : o.op = .call { callee := .builtin .append, args := #[s, x], argTypes := #[35, 35] })
    (base : Nat) (v : Value) (xs ys : List UInt8) (A : Option Addr) (m c B : Nat) (hs : a.eval s = v) (hx : a.eval x = .slice A m c) (hown : OwnB w base v xs) (hr : IsB w B A m ys) (hbase : base ≤ w.heap.size) (hb : xs.length + m ≤ 1099511627776)
    (h : ∀ v' w', OwnB w' base v' (xs ++ ys) → Grew w v w' v' → wpList Try.prog ops Q rest (a.put o.dst v') w') : wpList Try.prog ops Q (o :: rest) a w :=
  wpl_append_b _ hgd s x ho base v xs hs hown hbase B A m c ys hx hr.vals hb fun v' w' h1 h2 h3 => h v' w' h1 ⟨h2, moved_mk' h3⟩
theorem wpl_lit_i {w : World} {t : TypeId} {ops : Array Oper} {rest : List Oper} {o : Oper} {a : Act} {Q : Exit → Act → World → Prop} (hgd : o.guard = none) (s x : Operand)
    (ho : o.op = .call { callee := .builtin .append, args := #[s, x], argTypes := #[119, 119] })
    (base : Nat) (v : Value) (xs ys : List Int) (c : Nat) (hs : a.eval s = v) (hx : a.eval x = .slice (some ⟨w.heap.size, 0, none⟩) ys.length c) (hown : OwnI w base v xs) (hbase : base ≤ w.heap.size) (hb : xs.length + ys.length ≤ 1099511627776)
    (h : ∀ v' w', OwnI w' base v' (xs ++ ys) → Below base w w' → w.grownBy w' v.ownBlock → Moved w v v' → wpList Try.prog ops Q rest (a.put o.dst v') w') : wpList Try.prog ops Q (o :: rest) a (w.alloc (.cells (ys.map (Value.int .i64)).toArray t)) :=
  wpl_append_i _ hgd s x ho base v xs hs (hown.alloc _) (by simp; omega) (w.heap.size + 1) _ ys.length c ys hx (IsV.lit w t _ c _ (by simp)) hb fun v' w' h1 h2 h3 =>
    h v' w' h1 (below_of_grown (grown_alloc_left h2) hbase fun k hk => (World.ownsRow.lt hown k hk).1) (grown_alloc_left h2) (moved_mk h3)
theorem wpl_src_b {w : World} {ops : Array Oper} {rest : List Oper} {o : Oper} {a : Act} {Q : Exit → Act → World → Prop} (hgd : o.guard = none) (s x : Operand)
    (ho : o.op = .call { callee := .builtin .append, args := #[s, x], argTypes := #[35, 35] })
    (base : Nat) (v : Value) (xs ys : List UInt8) (A : Option Addr) (m c B : Nat) (hs : a.eval s = v) (hx : a.eval x = .slice A m c) (hown : OwnB w base v xs) (hr : IsB w B A m ys) (hbase : base ≤ w.heap.size) (hb : xs.length + m ≤ 1099511627776)
    (h : ∀ v' w', OwnB w' base v' (xs ++ ys) → Below base w w' → w.grownBy w' v.ownBlock → Moved w v v' → wpList Try.prog ops Q rest (a.put o.dst v') w') : wpList Try.prog ops Q (o :: rest) a w :=
  wpl_append_b _ hgd s x ho base v xs hs hown hbase B A m c ys hx hr.vals hb fun v' w' h1 h2 h3 =>
    h v' w' h1 (below_of_grown h2 hbase fun k hk => (hown.lt k hk).1) h2 (moved_mk' h3)
end Go.Proofs.Ytniieckjooahfaa
