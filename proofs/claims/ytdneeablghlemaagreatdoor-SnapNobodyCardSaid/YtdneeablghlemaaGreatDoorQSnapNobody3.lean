/- Structs of many cells by one letter: read and stored as wholes; packets. No condition. -/
import Derived.Test.YtdneeablghlemaaGreatDoorQSnapNobody2
import Derived.Test.YtdneeablghlemaaGreatDoorQSnapNobody1
import Derived.Deep.MidRow
import Derived.Laws.CopyOwn
namespace Go.Proofs.YtdneeablghlemaaGreatDoor
open Go.RowKit Go.ChangeShapes Go.WideShapes Go.ChangeAt Go.Deep
theorem setCells_own {g : Nat} {a : World} : ∀ (vs : List Value) (o : Nat) {w : World}, a.grownBy w (some g) → a.grownBy (w.setCells g o vs) (some g)
  | [], _, _, h => h
  | v :: vs, o, _, h => setCells_own vs (o + 1) (grown_set (p := ⟨g, o, none⟩) h rfl v)
theorem setCells_blk {g : Nat} {t : TypeId} (post : List Value) : ∀ (vs pre old : List Value) {w : World}, w.heap[g]? = some (.cells (pre ++ (old ++ post)).toArray t (0, 0)) → old.length = vs.length → (w.setCells g pre.length vs).heap[g]? = some (.cells (pre ++ (vs ++ post)).toArray t (0, 0))
  | [], pre, old, w, h, hl => by
    have : old = [] := List.eq_nil_of_length_eq_zero (by simpa using hl)
    subst this
    exact h
  | v :: vs, pre, old, w, h, hl => by
    match old, hl with
    | u :: old, hl =>
      have h1 := blk_set h pre.length v
      have e1 : ((pre ++ (u :: old ++ post)).toArray).setIfInBounds pre.length v = ((pre ++ [v]) ++ (old ++ post)).toArray := by simp
      rw [e1] at h1
      have h2 := setCells_blk post vs (pre ++ [v]) old h1 (by simpa using hl)
      rw [List.length_append] at h2
      simpa [World.setCells] using h2
/-- An array with some of its values replaced, from place o on. -/
def putA (cs : Array Value) (o : Nat) (vs : List Value) : Array Value := (cs.toList.take o ++ (vs ++ cs.toList.drop (o + vs.length))).toArray
theorem putA_size (cs : Array Value) (o : Nat) (vs : List Value) (h : o + vs.length ≤ cs.size) : (putA cs o vs).size = cs.size := by
  unfold putA
  simp
  omega
theorem stored_at {w : World} {g o : Nat} {t : TypeId} {cs : Array Value} (h : w.heap[g]? = some (.cells cs t (0, 0))) (vs : List Value) (hl : o + vs.length ≤ cs.size) : ∃ w', w.setCells g o vs = w' ∧ w'.heap[g]? = some (.cells (putA cs o vs) t (0, 0)) ∧ w.grownBy w' (some g) := by
  refine ⟨_, rfl, ?_, setCells_own _ o (grown_refl _ _)⟩
  have h1 := setCells_blk (g := g) (t := t) (cs.toList.drop (o + vs.length)) vs (cs.toList.take o) ((cs.toList.drop o).take vs.length) (w := w) (by
    have : cs.toList.take o ++ ((cs.toList.drop o).take vs.length ++ cs.toList.drop (o + vs.length)) = cs.toList := by
      rw [← List.drop_drop, List.take_append_drop, List.take_append_drop]
    rw [this]
    simpa using h) (by have := Array.length_toList (xs := cs); rw [List.length_take, List.length_drop]; omega)
  rw [List.length_take, Array.length_toList, Nat.min_eq_left (by omega)] at h1
  exact h1
theorem stored {w : World} {g : Nat} {t : TypeId} {cs : Array Value} (h : w.heap[g]? = some (.cells cs t (0, 0))) (vs : Array Value) (hl : cs.size = vs.size) : ∃ w', w.setCells g 0 vs.toList = w' ∧ w'.heap[g]? = some (.cells vs t (0, 0)) ∧ w.grownBy w' (some g) := by
  obtain ⟨w', e, h1, h2⟩ := stored_at (o := 0) h vs.toList (by simp [hl])
  refine ⟨w', e, ?_, h2⟩
  have e2 : putA cs 0 vs.toList = vs := by
    unfold putA
    rw [List.take_zero, List.nil_append, Nat.zero_add, List.drop_of_length_le (by simp [hl]), List.append_nil]
  rw [e2] at h1
  exact h1
theorem blk_range {w : World} {g : Nat} {t : TypeId} {cs : Array Value} (h : w.heap[g]? = some (.cells cs t (0, 0))) : w.rangeAt g 0 cs.toList := fun j v hv => by
  rw [Nat.zero_add, blk_cell h j]
  simpa using hv
theorem blk_there {w : World} {g o n : Nat} {t : TypeId} {cs : Array Value} (h : w.heap[g]? = some (.cells cs t (0, 0))) (hn : o + n ≤ cs.size) : w.there g o n := fun j hj => by
  rw [blk_cell h, blk_free h]
  simp [show o + j < cs.size by omega]
section
variable {P : Program} {ops : Array Oper} {rest : List Oper} {op : Oper} {a : Act} {w : World} {Q : Exit → Act → World → Prop}
/-- A whole struct is read. -/
theorem wpl_ld (hgd : op.guard = none) (ty : TypeId) (x : Operand) (ho : op.op = .load ty x) (g : Nat) (hx : a.eval x = .pointer (some ⟨g, 0, none⟩)) (cs : Array Value) {t : TypeId} (d : TypeDesc) (hc : w.heap[g]? = some (.cells cs t (0, 0)))
    (hu : P.underlying ty = some d) (hd : d.isRow = true) (hi : (P.info? ty).map (·.size) = some cs.size) (h : wpList P ops Q rest (a.put op.dst (.agg cs)) w) : wpList P ops Q (op :: rest) a w :=
  wpList_load_mid hgd ty x ho g 0 hx cs.toList d (blk_range hc) hu hd (by rw [hi, Array.length_toList]) (by simpa using h)
/-- A struct is stored, at place o of a block. -/
theorem wpl_st (hgd : op.guard = none) (ty : TypeId) (x y : Operand) (ho : op.op = .store ty x y) (g o : Nat) (hx : a.eval x = .pointer (some ⟨g, o, none⟩)) (vs : Array Value) (hy : a.eval y = .agg vs) {cs : Array Value} {t : TypeId} (hc : w.heap[g]? = some (.cells cs t (0, 0))) (hn : o + vs.size ≤ cs.size)
    (hi : (P.info? ty).map (·.size) = some vs.size) (h1 : vs.all (·.oneCell') = true)
    (h : ∀ w', w'.heap[g]? = some (.cells (putA cs o vs.toList) t (0, 0)) → w.grownBy w' (some g) → wpList P ops Q rest (a.put op.dst undef) w') : wpList P ops Q (op :: rest) a w := by
  obtain ⟨w', e, h2, h3⟩ := stored_at (o := o) hc vs.toList (by simpa using hn)
  refine wpList_store_mid hgd ty x y ho g o vs hx hy (blk_there hc hn) hi h1 ?_
  rw [e]
  exact h w' h2 h3
end
theorem putA_whole (cs vs : Array Value) (h : cs.size = vs.size) : putA cs 0 vs.toList = vs := by
  unfold putA
  rw [List.take_zero, List.nil_append, Nat.zero_add, List.drop_of_length_le (by simp [h]), List.append_nil]
namespace Pkt
theorem size_pk : (Tryz.prog.info? 230).map (·.size) = some 23 := by kernel_rfl
theorem size_tu : (Tryz.prog.info? 108).map (·.size) = some 9 := by kernel_rfl
/-- No packet. -/
def pkZ : Array Value := #[.bool false, .int .i64 0, .bool false, .int .u64 0, .int .u64 0, .bool false, .int .u64 0, .int .u64 0, .int .i64 0, .int .i64 0, .int .i64 0, .int .i64 0, .bool false, .int .i64 0, .bool false, .int .u64 0, .int .u64 0, .bool false, .int .u64 0, .int .u64 0, .int .i64 0, .int .i64 0, .int .i64 0]
theorem pkZ_size : pkZ.size = 23 := rfl
theorem pkZ_one : pkZ.all (·.oneCell') = true := all_oneCell_toArray (by
  intro v hv
  simp only [List.mem_cons, List.not_mem_nil, or_false] at hv
  rcases hv with rfl | rfl | rfl | rfl | rfl | rfl | rfl | rfl | rfl | rfl | rfl | rfl | rfl | rfl | rfl | rfl | rfl | rfl | rfl | rfl | rfl | rfl | rfl <;> rfl)
/-- A flow's cells. -/
def tuA (pr : Int) (sv : Bool) (sh sl : Int) (dv : Bool) (dh dl sp dp : Int) : Array Value := #[.int .i64 pr, .bool sv, .int .u64 sh, .int .u64 sl, .bool dv, .int .u64 dh, .int .u64 dl, .int .i64 sp, .int .i64 dp]
theorem tuA_one (pr : Int) (sv : Bool) (sh sl : Int) (dv : Bool) (dh dl sp dp : Int) : (tuA pr sv sh sl dv dh dl sp dp).all (·.oneCell') = true := all_oneCell_toArray (by
  intro v hv
  simp only [List.mem_cons, List.not_mem_nil, or_false] at hv
  rcases hv with rfl | rfl | rfl | rfl | rfl | rfl | rfl | rfl | rfl <;> rfl)
theorem all_put {cs : Array Value} {o : Nat} {vs : List Value} (h : cs.all (·.oneCell') = true) (hv : vs.all (·.oneCell') = true) : (putA cs o vs).all (·.oneCell') = true := by
  refine all_oneCell_toArray fun v hm => ?_
  have h1 := Array.all_eq_true_iff_forall_mem.1 h
  rcases List.mem_append.1 hm with hm | hm
  · exact h1 v (by simpa using List.mem_of_mem_take hm)
  · rcases List.mem_append.1 hm with hm | hm
    · exact List.all_eq_true.1 hv v hm
    · exact h1 v (by simpa using List.mem_of_mem_drop hm)
end Pkt
end Go.Proofs.YtdneeablghlemaaGreatDoor
/- Rows of the call's own whose elements are one cell each, of whatever type: appended to. Conditions: at most 2^40 elements of at most 16 bytes. -/
namespace Go.Proofs.YtdneeablghlemaaGreatDoor
open Go.RowKit Go.ChangeShapes Go.WideShapes Go.ChangeAt Go.Deep
section
variable {α : Type} {e t : TypeId} {f : α → Value} {w w' : World} {base : Nat} {v : Value}
/-- A row of the call's own, as a list. -/
def OwnR (e : TypeId) (f : α → Value) (w : World) (base : Nat) (v : Value) (xs : List α) : Prop := w.ownsRow base e 1 v xs.length (xs.map f)
/-- A slice that reads as a list. -/
def IsR (f : α → Value) (w : World) (B : Nat) (A : Option Addr) (n : Nat) (xs : List α) : Prop := IsV w B 1 A n (xs.map f)
theorem OwnR.nil (w : World) (base : Nat) : OwnR e f w base (.slice none 0 0) [] := World.ownsRow_nil w base _ 1
theorem OwnR.form {xs : List α} (h : OwnR e f w base v xs) : ∃ A c, v = .slice A xs.length c ∧ xs.length ≤ c ∧ c ≤ maxLen ∧ IsR f w w.heap.size A xs.length xs := own_isv h
theorem OwnR.alloc {xs : List α} (h : OwnR e f w base v xs) (o : Obj) : OwnR e f (w.alloc o) base v xs := World.ownsRow.alloc h o
theorem OwnR.lt {xs : List α} (h : OwnR e f w base v xs) : ∀ k, v.ownBlock = some k → base ≤ k ∧ k < w.heap.size := World.ownsRow.lt h
theorem OwnR.kept {xs : List α} {row : Option Nat} (h : OwnR e f w base v xs) (hg : w.grownBy w' row) (hne : v.ownBlock = none ∨ v.ownBlock ≠ row) : OwnR e f w' base v xs := World.ownsRow.kept h hg hne
theorem OwnR.below {xs : List α} (h : OwnR e f w base v xs) (hb : Below w.heap.size w w') : OwnR e f w' base v xs :=
  h.kept (row := none) ⟨hb.os, hb.tape, hb.output, hb.size, fun k hk _ => hb.block k hk⟩ (by cases v.ownBlock <;> simp)
theorem OwnR.weaken {base' : Nat} {xs : List α} (h : OwnR e f w base v xs) (hb : base' ≤ base) : OwnR e f w base' v xs :=
  ⟨h.1, h.2.imp id fun ⟨g, cap, cur, h1, h2, h3⟩ => ⟨g, cap, cur, h1, Nat.le_trans hb h2, h3⟩⟩
theorem IsR.on {n : Nat} {A : Option Addr} {xs : List α} (h : IsR f w w.heap.size A n xs) (hb : Below w.heap.size w w') : IsR f w' w'.heap.size A n xs := IsV.on h hb
theorem IsR.len {B n : Nat} {A : Option Addr} {xs : List α} (h : IsR f w B A n xs) : xs.length = n := by simpa using h.1
/-- The i-th element. -/
theorem IsR.at {B n : Nat} {A : Option Addr} {xs : List α} (h : IsR f w B A n xs) {i : Nat} (hi : i < n) : ∃ b off x, A = some ⟨b, off, none⟩ ∧ b < B ∧ xs[i]? = some x ∧ w.cell? ⟨b, off + i, none⟩ = some (f x) := by
  have hl := h.len
  obtain ⟨b, off, e, hb, hc⟩ := h.2 (by omega)
  have h1 := hc i (by rw [List.length_map]; omega)
  rw [List.getElem_map] at h1
  exact ⟨b, off, xs[i]'(by omega), e, hb, List.getElem?_eq_getElem (by omega), h1⟩
theorem Grew.belowR {v' : Value} {xs : List α} (h : Grew w v w' v') (hown : OwnR e f w base v xs) (hb : base ≤ w.heap.size) : Below base w w' := below_of_grown h.grown hb fun k hk => (hown.lt k hk).1
variable (hu : Tryz.prog.underlying t = some (.slice e)) {z : Value} {by_ : Nat} (hi : (Tryz.prog.info? e).map (fun i => (i.zero, i.size, i.bytes)) = some (some z, 1, by_)) (hz : z.cells.size = 1) (hby : by_ ≤ 16) (h1 : ∀ x, (f x).oneCell' = true)
include hu hi hz hby h1
theorem wp_src_r {o : Oper} {a : Act} {K : Act → World → Prop} {Q : Exit → Act → World → Prop} (s x : Operand)
    (ho : o.op = .call { callee := .builtin .append, args := #[s, x], argTypes := #[t, t] })
    (base : Nat) (v : Value) (xs ys : List α) (A : Option Addr) (m c B : Nat) (hs : a.eval s = v) (hx : a.eval x = .slice A m c) (hown : OwnR e f w base v xs) (hr : IsR f w B A m ys) (hbase : base ≤ w.heap.size) (hb : xs.length + m ≤ 1099511627776)
    (h : ∀ v' w', OwnR e f w' base v' (xs ++ ys) → Grew w v w' v' → K (a.put o.dst v') w') : o.wp Tryz.prog a w K Q := by
  obtain ⟨i, hi1, hz1, hsz, hb1⟩ := info_parts hi
  have hm : ys.length = m := hr.len
  have hmul : (xs.length + m) * by_ ≤ 140737488355328 := by
    have := Nat.mul_le_mul hb hby
    omega
  refine wp_append_isv w s x t ho base e i z 1 by_ hu hi1 hz1 hsz hb1 hz (by omega) v xs.length (xs.map f) hs hown B A m c (ys.map f) hx hr (fun u hu => by obtain ⟨y, _, rfl⟩ := List.mem_map.1 hu; exact h1 y) (by unfold maxLen; omega) hmul hbase fun v' w' h1 h2 h3 => h v' w' ?_ ⟨h2, moved_mk' h3⟩
  unfold OwnR
  rw [List.map_append, List.length_append, hm]
  exact h1
theorem wpl_src_r {ops : Array Oper} {rest : List Oper} {o : Oper} {a : Act} {Q : Exit → Act → World → Prop} (hgd : o.guard = none) (s x : Operand)
    (ho : o.op = .call { callee := .builtin .append, args := #[s, x], argTypes := #[t, t] })
    (base : Nat) (v : Value) (xs ys : List α) (A : Option Addr) (m c B : Nat) (hs : a.eval s = v) (hx : a.eval x = .slice A m c) (hown : OwnR e f w base v xs) (hr : IsR f w B A m ys) (hbase : base ≤ w.heap.size) (hb : xs.length + m ≤ 1099511627776)
    (h : ∀ v' w', OwnR e f w' base v' (xs ++ ys) → Grew w v w' v' → wpList Tryz.prog ops Q rest (a.put o.dst v') w') : wpList Tryz.prog ops Q (o :: rest) a w :=
  wpList_plain hgd fun _ hK => wp_src_r hu hi hz hby h1 s x ho base v xs ys A m c B hs hx hown hr hbase hb fun v' w' h2 h3 => hK _ _ (h v' w' h2 h3)
theorem wpT_src_r {md : Region.Mode} {Q : Exit → Act → World → Prop} {o : Oper} {rest : List Oper} {a : Act} (i : Nat) {L : List Oper} {fuel : Nat} {listed : Array Bool} (hd : L.drop i = o :: rest) (hrd : Region.ready md L.toArray listed = [i]) (hgd : o.guard = none) (s x : Operand)
    (ho : o.op = .call { callee := .builtin .append, args := #[s, x], argTypes := #[t, t] })
    (base : Nat) (v : Value) (xs ys : List α) (A : Option Addr) (m c B : Nat) (hs : a.eval s = v) (hx : a.eval x = .slice A m c) (hown : OwnR e f w base v xs) (hr : IsR f w B A m ys) (hbase : base ≤ w.heap.size) (hb : xs.length + m ≤ 1099511627776)
    (h : ∀ v' w', OwnR e f w' base v' (xs ++ ys) → Grew w v w' v' → wpAny Tryz.prog md L.toArray Q fuel (listed.setIfInBounds i true) (a.put o.dst v') w') : wpAny Tryz.prog md L.toArray Q (fuel + 1) listed a w := by
  refine wpT_step i hd hrd fun K hK => ?_
  rw [if_pos (by unfold Region.wanted; rw [hgd])]
  exact wp_src_r hu hi hz hby h1 s x ho base v xs ys A m c B hs hx hown hr hbase hb fun v' w' h2 h3 => hK _ _ (h v' w' h2 h3)
theorem wpl_lit_r {T : TypeId} {vals : List Value} {ops : Array Oper} {rest : List Oper} {o : Oper} {a : Act} {Q : Exit → Act → World → Prop} (hgd : o.guard = none) (s x : Operand)
    (ho : o.op = .call { callee := .builtin .append, args := #[s, x], argTypes := #[t, t] })
    (base : Nat) (v : Value) (xs ys : List α) (m c : Nat) (hs : a.eval s = v) (hx : a.eval x = .slice (some ⟨w.heap.size, 0, none⟩) m c) (hv : vals = ys.map f) (hm : ys.length = m) (hown : OwnR e f w base v xs) (hbase : base ≤ w.heap.size) (hb : xs.length + m ≤ 1099511627776)
    (h : ∀ v' w', OwnR e f w' base v' (xs ++ ys) → Grew w v w' v' → wpList Tryz.prog ops Q rest (a.put o.dst v') w') : wpList Tryz.prog ops Q (o :: rest) a (w.alloc (.cells vals.toArray T)) := by
  subst hv hm
  refine wpl_src_r hu hi hz hby h1 hgd s x ho base v xs ys (some ⟨w.heap.size, 0, none⟩) ys.length c (w.heap.size + 1) hs hx (hown.alloc _) (IsV.lit w T _ c _ (by simp)) (by simp; omega) hb fun v' w' h2 h3 => h v' w' h2 ⟨grown_alloc_left h3.grown, ?_⟩
  rcases h3.moved with h4 | ⟨k, h4, h5⟩
  · exact .inl h4
  · exact .inr ⟨k, h4, by simp at h5; omega⟩
end
end Go.Proofs.YtdneeablghlemaaGreatDoor
/- append of one struct that is written out, to a row of the call's own of any type. -/
namespace Go.Proofs.YtdneeablghlemaaGreatDoor
open Go.RowKit Go.ChangeShapes Go.WideShapes Go.ChangeAt Go.Deep
theorem wpl_lit_c {w : World} {T e t : TypeId} {size by_ : Nat} {z : Value} (hu : Tryz.prog.underlying t = some (.slice e)) (hi : (Tryz.prog.info? e).map (fun i => (i.zero, i.size, i.bytes)) = some (some z, size, by_)) (hz : z.cells.size = size) (h0 : 0 < size) (hby : by_ ≤ 128)
    {ops : Array Oper} {rest : List Oper} {o : Oper} {a : Act} {Q : Exit → Act → World → Prop} (hgd : o.guard = none) (s x : Operand)
    (ho : o.op = .call { callee := .builtin .append, args := #[s, x], argTypes := #[t, t] })
    (base : Nat) (v : Value) (n : Nat) (xs us : List Value) (hs : a.eval s = v) (hx : a.eval x = .slice (some ⟨w.heap.size, 0, none⟩) 1 1) (hown : w.ownsRow base e size v n xs) (hus : us.length = size) (h1 : ∀ u ∈ us, u.oneCell' = true) (hbase : base ≤ w.heap.size) (hb : n + 1 ≤ 1099511627776)
    (h : ∀ v' w', w'.ownsRow base e size v' (n + 1) (xs ++ us) → Grew w v w' v' → wpList Tryz.prog ops Q rest (a.put o.dst v') w') : wpList Tryz.prog ops Q (o :: rest) a (w.alloc (.cells us.toArray T)) := by
  obtain ⟨i, hi1, hz1, hsz, hb1⟩ := info_parts hi
  refine wpList_plain hgd fun K hK => ?_
  have hmul : (n + 1) * by_ ≤ 140737488355328 := by
    have := Nat.mul_le_mul hb hby
    omega
  refine wp_append_isv (w.alloc (.cells us.toArray T)) s x t ho base e i z size by_ hu hi1 hz1 hsz hb1 hz h0 v n xs hs (World.ownsRow.alloc hown _) (w.alloc (.cells us.toArray T)).heap.size (some ⟨w.heap.size, 0, none⟩) 1 1 us hx ?_ h1 (by unfold maxLen; omega) hmul (by simp; omega) fun v' w' h2 h3 h4 => hK _ _ (h v' w' h2 ⟨grown_alloc_left h3, ?_⟩)
  · refine ⟨by omega, fun _ => ⟨w.heap.size, 0, rfl, by simp, fun i hi => ?_⟩⟩
    rw [blk_cell (blk_new w T us.toArray) (0 + i), Nat.zero_add, List.getElem?_toArray, List.getElem?_eq_getElem]
  · rcases h4 with h4 | h4
    · exact .inl h4
    · exact .inr ⟨_, h4, by simp⟩
end Go.Proofs.YtdneeablghlemaaGreatDoor
/- append of one struct that lies in a block of its own, to a row of the call's own of any type. -/
namespace Go.Proofs.YtdneeablghlemaaGreatDoor
open Go.RowKit Go.ChangeShapes Go.WideShapes Go.ChangeAt Go.Deep
theorem wp_app_c {w : World} {T e t : TypeId} {size by_ : Nat} {z : Value} (hu : Tryz.prog.underlying t = some (.slice e)) (hi : (Tryz.prog.info? e).map (fun i => (i.zero, i.size, i.bytes)) = some (some z, size, by_)) (hz : z.cells.size = size) (h0 : 0 < size) (hby : by_ ≤ 128)
    {o : Oper} {a : Act} {K : Act → World → Prop} {Q : Exit → Act → World → Prop} (s x : Operand)
    (ho : o.op = .call { callee := .builtin .append, args := #[s, x], argTypes := #[t, t] })
    (base : Nat) (v : Value) (n : Nat) (xs us : List Value) (b : Nat) (hs : a.eval s = v) (hx : a.eval x = .slice (some ⟨b, 0, none⟩) 1 1) (hown : w.ownsRow base e size v n xs) (hlit : w.heap[b]? = some (.cells us.toArray T (0, 0))) (hus : us.length = size) (h1 : ∀ u ∈ us, u.oneCell' = true) (hbase : base ≤ w.heap.size) (hb : n + 1 ≤ 1099511627776)
    (h : ∀ v' w', w'.ownsRow base e size v' (n + 1) (xs ++ us) → Grew w v w' v' → K (a.put o.dst v') w') : o.wp Tryz.prog a w K Q := by
  obtain ⟨i, hi1, hz1, hsz, hb1⟩ := info_parts hi
  have hmul : (n + 1) * by_ ≤ 140737488355328 := by
    have := Nat.mul_le_mul hb hby
    omega
  have hbl : b < w.heap.size := (Array.getElem?_eq_some_iff.1 hlit).1
  refine wp_append_isv w s x t ho base e i z size by_ hu hi1 hz1 hsz hb1 hz h0 v n xs hs hown w.heap.size (some ⟨b, 0, none⟩) 1 1 us hx ?_ h1 (by unfold maxLen; omega) hmul hbase fun v' w' h2 h3 h4 => h v' w' h2 ⟨h3, moved_mk' h4⟩
  refine ⟨by omega, fun _ => ⟨b, 0, rfl, hbl, fun i hi => ?_⟩⟩
  rw [blk_cell hlit (0 + i), Nat.zero_add, List.getElem?_toArray, List.getElem?_eq_getElem]
end Go.Proofs.YtdneeablghlemaaGreatDoor
/- A drawn region whose calls turn rows of the call's own (XRegionF): two operations that may come up, append as a step. No condition. -/
namespace Go.Proofs.YtdneeablghlemaaGreatDoor
open Go.RowKit
section
variable {P : Program} {Q : Exit → Act → World → Prop} {md : Region.Mode} {R : World → World → Prop}
/-- Numbers i and j alone may come up. -/
theorem wpF_two (i j : Nat) {L : List Oper} {oi oj : Oper} {ri rj : List Oper} {fuel : Nat} {listed : Array Bool} {a : Act} {w : World} (hi : L.drop i = oi :: ri) (hj : L.drop j = oj :: rj) (hrd : Region.ready md L.toArray listed = [i, j])
    (h1 : ∀ K : Act → World → Prop, (∀ a'' w'', R w w'' → wpF P md L.toArray Q R fuel (listed.setIfInBounds i true) a'' w'' → K a'' w'') →
      if Region.wanted oi (yielded L.toArray a.tmps) then oi.wp P a w K Q else K (a.put oi.dst undef) w)
    (h2 : ∀ K : Act → World → Prop, (∀ a'' w'', R w w'' → wpF P md L.toArray Q R fuel (listed.setIfInBounds j true) a'' w'' → K a'' w'') →
      if Region.wanted oj (yielded L.toArray a.tmps) then oj.wp P a w K Q else K (a.put oj.dst undef) w) : wpF P md L.toArray Q R (fuel + 1) listed a w := by
  refine ⟨fun h0 => (by rw [h0] at hrd; cases hrd), fun k hk => ?_⟩
  rw [hrd] at hk
  have hk' : k = i ∨ k = j := by simpa using hk
  rcases hk' with rfl | rfl
  · have h3 := h1 (fun a' w'' => R w w'' ∧ wpF P md L.toArray Q R fuel (listed.setIfInBounds k true) a' w'') (fun _ _ h2 h3 => ⟨h2, h3⟩)
    unfold wpOp
    simp only [at_drop hi]
    split
    · rename_i hw; rw [if_pos hw] at h3; exact .inl h3
    · rename_i hw; rw [if_neg hw] at h3; exact h3
  · have h3 := h2 (fun a' w'' => R w w'' ∧ wpF P md L.toArray Q R fuel (listed.setIfInBounds k true) a' w'') (fun _ _ h2 h3 => ⟨h2, h3⟩)
    unfold wpOp
    simp only [at_drop hj]
    split
    · rename_i hw; rw [if_pos hw] at h3; exact .inl h3
    · rename_i hw; rw [if_neg hw] at h3; exact h3
end
section
variable {Q : Exit → Act → World → Prop} {md : Region.Mode}
/-- append of a slice that reads onto a row of the call's own, as an operation. -/
theorem wp_src_bv {w : World} {o : Oper} {a : Act} {K : Act → World → Prop} (s x : Operand)
    (ho : o.op = .call { callee := .builtin .append, args := #[s, x], argTypes := #[40, 40] })
    (base : Nat) (v : Value) (xs ys : List UInt8) (A : Option Addr) (m c B : Nat) (hs : a.eval s = v) (hx : a.eval x = .slice A m c) (hown : OwnB w base v xs) (hr : IsB w B A m ys) (hbase : base ≤ w.heap.size) (hb : xs.length + m ≤ 1099511627776)
    (h : ∀ v' w', OwnB w' base v' (xs ++ ys) → Grew w v w' v' → K (a.put o.dst v') w') : o.wp Tryz.prog a w K Q := by
  obtain ⟨i, hi, hz, hsz, hby⟩ := info_parts info_u8
  have hm : ys.length = m := hr.1
  refine wp_append_isv w s x 40 ho base 5 i _ 1 1 Tryz.underlying40 hi hz hsz hby rfl (by omega) v xs.length (xs.map u8v) hs hown B A m c (ys.map u8v) hx hr.vals (u8v_one ys) (by unfold maxLen; omega) (by omega) hbase fun v' w' h1 h2 h3 => h v' w' ?_ ⟨h2, moved_mk' h3⟩
  unfold OwnB
  rw [List.map_append, List.length_append, hm]
  exact h1
/-- .. as the one step of a region that may come up. -/
theorem wpF_src (i : Nat) {L : List Oper} {o : Oper} {rest : List Oper} {fuel : Nat} {listed : Array Bool} {a : Act} {w : World} (hd : L.drop i = o :: rest) (hrd : Region.ready md L.toArray listed = [i]) (hgd : o.guard = none) (s x : Operand)
    (ho : o.op = .call { callee := .builtin .append, args := #[s, x], argTypes := #[40, 40] })
    (base : Nat) (v : Value) (xs ys : List UInt8) (A : Option Addr) (m c B : Nat) (hs : a.eval s = v) (hx : a.eval x = .slice A m c) (hown : OwnB w base v xs) (hr : IsB w B A m ys) (hbase : base ≤ w.heap.size) (hb : xs.length + m ≤ 1099511627776)
    (h : ∀ v' w', OwnB w' base v' (xs ++ ys) → Below base w w' → wpF Tryz.prog md L.toArray Q (Below base) fuel (listed.setIfInBounds i true) (a.put o.dst v') w') : wpF Tryz.prog md L.toArray Q (Below base) (fuel + 1) listed a w := by
  refine wpF_step i hd hrd fun K hK => ?_
  have hw : Region.wanted o (yielded L.toArray a.tmps) = true := by unfold Region.wanted; rw [hgd]
  rw [if_pos hw]
  refine wp_src_bv s x ho base v xs ys A m c B hs hx hown hr hbase hb fun v' w' h1 h2 => ?_
  exact hK _ _ (h2.below hown hbase) (h v' w' h1 (h2.below hown hbase))
end
/-- Worlds in which all but block g stays. -/
structure Grown (g : Nat) (w0 : World) where
  w : World
  hg : w0.grownBy w (some g)
instance grown_nonempty (g : Nat) (w0 : World) : Nonempty (Grown g w0) := ⟨⟨w0, grown_refl _ _⟩⟩
theorem grown_trans' {row : Option Nat} (a b c : World) (h : a.grownBy b row) (k : b.grownBy c row) : a.grownBy c row :=
  ⟨k.os.trans h.os, k.tape.trans h.tape, k.output.trans h.output, Nat.le_trans h.size k.size, fun i hi hne => (k.block i (Nat.lt_of_lt_of_le hi h.size) hne).trans (h.block i hi hne)⟩
theorem grown_of_below {w w' : World} {g : Nat} (hb : Below w.heap.size w w') : w.grownBy w' (some g) := ⟨hb.os, hb.tape, hb.output, hb.size, fun k hk _ => hb.block k hk⟩
/-- The relation: all but block g stays. -/
def GrownR (g : Nat) (a b : World) : Prop := a.grownBy b (some g)
section
variable {P : Program} {Q : Exit → Act → World → Prop} {md : Region.Mode}
theorem wpG_seg (g s k : Nat) {w : World} {L : List Oper} (hs : Region.noSelect L.toArray = true) (hQ : ∀ d v c a w, Q (.panic c) (Act.put a d v) w → Q (.panic c) a w) {fuel : Nat} {listed : Array Bool} {a : Act}
    (hl : Nat.ble (s + k) L.length = true) (hB : ordF md L.toArray (List.range' s k) listed = true) (h : wpQF P L.toArray (GrownR g) w (fun a' => wpF P md L.toArray Q (GrownR g) fuel (listAll (List.range' s k) listed) a' w) ((L.drop s).take k) a) :
    wpF P md L.toArray Q (GrownR g) (fuel + k) listed a w := wpF_seg (fun _ => grown_refl _ _) (fun a b c h k => grown_trans' a b c h k) s k hs hQ hl hB h
theorem wpQG_step {g : Nat} {ops : Array Oper} {w0 : World} {Q : Act → Prop} {a : Act} {o : Oper} {rest : List Oper}
    (h : ∀ K : Act → Prop, (∀ a, wpQF P ops (GrownR g) w0 Q rest a → K a) → if Region.wanted o (yielded ops a.tmps) then ∃ v, (∀ l : Grown g w0, quietIn P Eq l.w v ((execOp a.eval o).run P l.w)) ∧ K (a.put o.dst v) else K (a.put o.dst undef)) : wpQF P ops (GrownR g) w0 Q (o :: rest) a := by
  have h1 := h _ (fun _ h => h)
  unfold wpQF
  split at h1
  · obtain ⟨v, hv, hK⟩ := h1
    rw [if_pos (by assumption)]
    exact ⟨v, fun w hw => hv ⟨w, hw⟩, hK⟩
  · rw [if_neg (by assumption)]
    exact h1
end
end Go.Proofs.YtdneeablghlemaaGreatDoor
/- A drawn region that stores into some blocks beside loads of others (XRegionF): the relation of its worlds. No condition. -/
namespace Go.Proofs.YtdneeablghlemaaGreatDoor
open Go.RowKit
/-- What lies below block number S stays, but for some blocks. -/
structure KeptS (S : Nat) (P : Nat → Prop) (a b : World) : Prop where
  os : b.os = a.os
  tape : b.tape = a.tape
  output : b.output = a.output
  size : a.heap.size ≤ b.heap.size
  block : ∀ k, k < S → ¬ P k → b.heap[k]? = a.heap[k]?
theorem keptS_refl (S : Nat) (P : Nat → Prop) (a : World) : KeptS S P a a := ⟨rfl, rfl, rfl, Nat.le_refl _, fun _ _ _ => rfl⟩
theorem keptS_trans (S : Nat) (P : Nat → Prop) (a b c : World) (h : KeptS S P a b) (k : KeptS S P b c) : KeptS S P a c :=
  ⟨k.os.trans h.os, k.tape.trans h.tape, k.output.trans h.output, Nat.le_trans h.size k.size, fun i hi hne => (k.block i hi hne).trans (h.block i hi hne)⟩
theorem keptS_of_below {S : Nat} {P : Nat → Prop} {B : Nat} {a b : World} (h : Below B a b) (hS : S ≤ B) : KeptS S P a b :=
  ⟨h.os, h.tape, h.output, h.size, fun k hk _ => h.block k (by omega)⟩
theorem keptS_set {S : Nat} {P : Nat → Prop} {a b : World} (h : KeptS S P a b) {p : Addr} (hp : P p.block) (u : Value) : KeptS S P a (b.setCell p u) :=
  ⟨h.os, h.tape, h.output, by simpa [World.setCell] using h.size, fun k hk hne => (Below.heap_setCell b p u k (fun e => hne (e ▸ hp))).trans (h.block k hk hne)⟩
/-- Such a world. -/
structure KeptSW (S : Nat) (P : Nat → Prop) (w0 : World) where
  w : World
  hk : KeptS S P w0 w
instance keptSW_nonempty (S : Nat) (P : Nat → Prop) (w0 : World) : Nonempty (KeptSW S P w0) := ⟨⟨w0, keptS_refl _ _ _⟩⟩
theorem KeptSW.blk {S : Nat} {P : Nat → Prop} {w0 : World} (l : KeptSW S P w0) {k : Nat} {x : Option Obj} (h : w0.heap[k]? = x) (hk : k < S) (hne : ¬ P k) : l.w.heap[k]? = x := (l.hk.block k hk hne).trans h
/-- A cell of an old block, where nothing below S turns. -/
theorem KeptSW.cellOf {w wd : World} {a : Addr} {v : Value} (l : KeptSW w.heap.size (fun _ => False) wd) (h : w.cell? a = some v) (hb : Below w.heap.size w wd) : l.w.cell? a = some v := by
  have hlt := World.block_lt_of_cell? w a h
  refine (World.cell?_of_block ?_).trans h
  exact (l.hk.block _ hlt id).trans (hb.block _ hlt)
section
variable {P : Program} {Q : Exit → Act → World → Prop} {md : Region.Mode}
theorem wpS_seg (S : Nat) (B : Nat → Prop) (s k : Nat) {w : World} {L : List Oper} (hs : Region.noSelect L.toArray = true) (hQ : ∀ d v c a w, Q (.panic c) (Act.put a d v) w → Q (.panic c) a w) {fuel : Nat} {listed : Array Bool} {a : Act}
    (hl : Nat.ble (s + k) L.length = true) (hB : ordF md L.toArray (List.range' s k) listed = true) (h : wpQF P L.toArray (KeptS S B) w (fun a' => wpF P md L.toArray Q (KeptS S B) fuel (listAll (List.range' s k) listed) a' w) ((L.drop s).take k) a) :
    wpF P md L.toArray Q (KeptS S B) (fuel + k) listed a w := wpF_seg (keptS_refl S B) (keptS_trans S B) s k hs hQ hl hB h
theorem wpQS_step {S : Nat} {B : Nat → Prop} {ops : Array Oper} {w0 : World} {Q : Act → Prop} {a : Act} {o : Oper} {rest : List Oper}
    (h : ∀ K : Act → Prop, (∀ a, wpQF P ops (KeptS S B) w0 Q rest a → K a) → if Region.wanted o (yielded ops a.tmps) then ∃ v, (∀ l : KeptSW S B w0, quietIn P Eq l.w v ((execOp a.eval o).run P l.w)) ∧ K (a.put o.dst v) else K (a.put o.dst undef)) : wpQF P ops (KeptS S B) w0 Q (o :: rest) a := by
  have h1 := h _ (fun _ h => h)
  unfold wpQF
  split at h1
  · obtain ⟨v, hv, hK⟩ := h1
    rw [if_pos (by assumption)]
    exact ⟨v, fun w hw => hv ⟨w, hw⟩, hK⟩
  · rw [if_neg (by assumption)]
    exact h1
theorem wp_region_S {id : Nat} {a : Act} {w : World} {l : List Oper} (S : Nat) (B : Nat → Prop) (hm : P.follows .mixedOrders = true)
    (h : ∀ wd, Below w.heap.size w wd → wpF P .any l.toArray Q (KeptS S B) l.length (Array.replicate l.length false) a wd) : (Code.region id l.toArray true).wp P Q a w := wp_region_F (KeptS S B) hm (h _ (Below.refl _ _).drew)
end
theorem set3 {w : World} {g : Nat} {t : TypeId} {a0 a1 a2 : Value} (h : w.heap[g]? = some (.cells #[a0, a1, a2] t (0, 0))) (v0 v1 v2 : Value) :
    ∃ w', (((w.setCell ⟨g, 0, none⟩ v0).setCell ⟨g, 1, none⟩ v1).setCell ⟨g, 2, none⟩ v2) = w' ∧ w'.heap[g]? = some (.cells #[v0, v1, v2] t (0, 0)) ∧ w.grownBy w' (some g) := by
  refine ⟨_, rfl, ?_, ?_⟩
  · simpa using (blk_set (blk_set (blk_set h 0 v0) 1 v1) 2 v2)
  · iterate 3 refine grown_set ?_ rfl _
    exact grown_refl _ _
/-- Bytes stay when an address is written. -/
theorem isB_addr {w w' : World} {g B n : Nat} {A : Option Addr} {xs : List UInt8} {t : TypeId} {p : Bool} {q r : Int} (h : IsB w B A n xs) (hg : w.grownBy w' (some g)) (hB : B ≤ w.heap.size) (h0 : w.heap[g]? = some (.cells #[.bool p, .int .u64 q, .int .u64 r] t (0, 0))) : IsB w' B A n xs := by
  refine ⟨h.1, fun hn => ?_⟩
  obtain ⟨b, off, e, hb, hc⟩ := h.2 hn
  refine ⟨b, off, e, hb, fun i hi => ?_⟩
  have hne : b ≠ g := by
    rintro rfl
    have h1 := hc i hi
    rw [blk_cell h0 (off + i)] at h1
    rcases hk : off + i with _ | _ | _ | k <;> rw [hk] at h1 <;> simp [u8v] at h1
  rw [← hc i hi]
  exact World.cell?_of_block (hg.block b (Nat.lt_of_lt_of_le hb hB) (by simpa using hne))
theorem grown_other {w w' : World} {g k : Nat} {x : Option Obj} (h : w.grownBy w' (some g)) (hk : k < w.heap.size) (hne : k ≠ g) (hx : w.heap[k]? = x) : w'.heap[k]? = x := (h.block k hk (by simpa using hne)).trans hx
theorem below_grown {w w' : World} {g B : Nat} (h : w.grownBy w' (some g)) (hB : B ≤ w.heap.size) (hg : B ≤ g) : Below B w w' := below_of_grown h hB (by intro k hk; cases hk; exact hg)
end Go.Proofs.YtdneeablghlemaaGreatDoor
/- A drawn region whose operations go on by any relation that stands still and goes on (XRegionF); and one of blocks and cells that stay. No condition. -/
namespace Go.Proofs.YtdneeablghlemaaGreatDoor
open Go.RowKit
class IsRel (R : World → World → Prop) : Prop where
  refl : ∀ w, R w w
  trans : ∀ a b c, R a b → R b c → R a c
/-- Such a world. -/
structure RelW (R : World → World → Prop) (w0 : World) where
  w : World
  hk : R w0 w
instance relW_nonempty (R : World → World → Prop) [h : IsRel R] (w0 : World) : Nonempty (RelW R w0) := ⟨⟨w0, h.refl w0⟩⟩
section
variable {P : Program} {Q : Exit → Act → World → Prop} {md : Region.Mode}
theorem wpX_seg (R : World → World → Prop) [hR : IsRel R] (s k : Nat) {w : World} {L : List Oper} (hs : Region.noSelect L.toArray = true) (hQ : ∀ d v c a w, Q (.panic c) (Act.put a d v) w → Q (.panic c) a w) {fuel : Nat} {listed : Array Bool} {a : Act}
    (hl : Nat.ble (s + k) L.length = true) (hB : ordF md L.toArray (List.range' s k) listed = true) (h : wpQF P L.toArray R w (fun a' => wpF P md L.toArray Q R fuel (listAll (List.range' s k) listed) a' w) ((L.drop s).take k) a) :
    wpF P md L.toArray Q R (fuel + k) listed a w := wpF_seg hR.refl hR.trans s k hs hQ hl hB h
theorem wpQX_step {R : World → World → Prop} {ops : Array Oper} {w0 : World} {Q : Act → Prop} {a : Act} {o : Oper} {rest : List Oper}
    (h : ∀ K : Act → Prop, (∀ a, wpQF P ops R w0 Q rest a → K a) → if Region.wanted o (yielded ops a.tmps) then ∃ v, (∀ l : RelW R w0, quietIn P Eq l.w v ((execOp a.eval o).run P l.w)) ∧ K (a.put o.dst v) else K (a.put o.dst undef)) : wpQF P ops R w0 Q (o :: rest) a := by
  have h1 := h _ (fun _ h => h)
  unfold wpQF
  split at h1
  · obtain ⟨v, hv, hK⟩ := h1
    rw [if_pos (by assumption)]
    exact ⟨v, fun w hw => hv ⟨w, hw⟩, hK⟩
  · rw [if_neg (by assumption)]
    exact h1
theorem wp_region_X {id : Nat} {a : Act} {w : World} {l : List Oper} (R : World → World → Prop) (hm : P.follows .mixedOrders = true)
    (h : ∀ wd, Below w.heap.size w wd → wpF P .any l.toArray Q R l.length (Array.replicate l.length false) a wd) : (Code.region id l.toArray true).wp P Q a w := wp_region_F R hm (h _ (Below.refl _ _).drew)
end
/-- What lies below block number S stays, but for some blocks; of these some cells stay. -/
structure KeptC (S : Nat) (P : Nat → Prop) (C : Addr → Prop) (a b : World) : Prop where
  s : KeptS S P a b
  cell : ∀ p, C p → b.cell? p = a.cell? p
instance keptC_rel (S : Nat) (P : Nat → Prop) (C : Addr → Prop) : IsRel (KeptC S P C) :=
  ⟨fun w => ⟨keptS_refl _ _ w, fun _ _ => rfl⟩, fun a b c h k => ⟨keptS_trans S P a b c h.s k.s, fun p hp => (k.cell p hp).trans (h.cell p hp)⟩⟩
instance keptS_rel (S : Nat) (P : Nat → Prop) : IsRel (KeptS S P) := ⟨keptS_refl S P, keptS_trans S P⟩
/-- All cells of a block but one. -/
def butCell (g i : Nat) (p : Addr) : Prop := ∃ j, p = ⟨g, j, none⟩ ∧ j ≠ i
theorem RelW.blkC {S : Nat} {P : Nat → Prop} {C : Addr → Prop} {w0 : World} (l : RelW (KeptC S P C) w0) {k : Nat} {x : Option Obj} (h : w0.heap[k]? = x) (hk : k < S) (hne : ¬ P k) : l.w.heap[k]? = x := (l.hk.s.block k hk hne).trans h
theorem RelW.cellC {S : Nat} {P : Nat → Prop} {C : Addr → Prop} {w0 : World} (l : RelW (KeptC S P C) w0) {p : Addr} {v : Option Value} (h : w0.cell? p = v) (hC : C p) : l.w.cell? p = v := (l.hk.cell p hC).trans h
theorem keptC_cells {S g i : Nat} {w w' : World} {t : TypeId} {cs cs' : Array Value} (hg : w.grownBy w' (some g)) (hS : S ≤ w.heap.size) (h : w.heap[g]? = some (.cells cs t (0, 0))) (h' : w'.heap[g]? = some (.cells cs' t (0, 0))) (he : ∀ j, j ≠ i → cs'[j]? = cs[j]?) : KeptC S (fun k => k = g) (butCell g i) w w' :=
  ⟨⟨hg.os, hg.tape, hg.output, hg.size, fun k hk hne => hg.block k (by omega) (fun e => hne (by cases e; rfl))⟩, fun p ⟨j, e, hj⟩ => by subst e; rw [blk_cell h', blk_cell h]; exact he j hj⟩
theorem keptC_below {S B _g _i : Nat} {w w' : World} {P : Nat → Prop} {C : Addr → Prop} (hb : Below B w w') (hS : S ≤ B) (hC : ∀ p, C p → p.block < B) : KeptC S P C w w' :=
  ⟨keptS_of_below hb hS, fun p hp => World.cell?_of_block (hb.block _ (hC p hp))⟩
end Go.Proofs.YtdneeablghlemaaGreatDoor
/- A drawn region some of whose operations write (they are named), each waiting for the loads of what it writes: those loads are taken first as if nothing turned. No condition. -/
namespace Go.Proofs.YtdneeablghlemaaGreatDoor
open Go.RowKit
section
variable {P : Program} {ops : Array Oper} {Q : Exit → Act → World → Prop} {md : Region.Mode}
/-- Whatever order is picked from here on; operation i goes on by Rj i. -/
def wpW (P : Program) (md : Region.Mode) (ops : Array Oper) (Q : Exit → Act → World → Prop) (Rj : Nat → World → World → Prop) : Nat → Array Bool → Act → World → Prop
  | 0, listed, a, w => Region.ready md ops listed = [] ∧ Q .normal a w
  | fuel + 1, listed, a, w => (Region.ready md ops listed = [] → Q .normal a w) ∧
      ∀ i ∈ Region.ready md ops listed, wpOp P ops Q i (fun a' w'' => Rj i w w'' ∧ wpW P md ops Q Rj fuel (listed.setIfInBounds i true) a' w'') a w
variable {Rj : Nat → World → World → Prop} {S : World → World → Prop}
theorem wpAny_of_W : ∀ (fuel : Nat) (listed : Array Bool) (a : Act) (w : World), wpW P md ops Q Rj fuel listed a w → wpAny P md ops Q fuel listed a w
  | 0, _, _, _, h => h
  | fuel + 1, _, _, _, h => ⟨h.1, fun i hi => wpOp_mono (fun a' w' h' => wpAny_of_W fuel _ a' w' h'.2) (h.2 i hi)⟩
theorem wpW_first (hr : ∀ w, S w w) (ht : ∀ a b c, S a b → S b c → S a c) (hRr : ∀ i w, Rj i w w) {i : Nat} {oi : Oper} {v : Value} (hi : ops[i]? = some oi) (hsel : ∀ (j : Nat) (o : Oper) cs b, ops[j]? = some o → o.op ≠ .select cs b)
    (hQ : ∀ c a w, Q (.panic c) (a.put oi.dst v) w → Q (.panic c) a w)
    (hcond : ∀ j oj, ops[j]? = some oj → j ≠ i → (∀ e ∈ oj.after, Region.binds md e = true → e.on ≠ i) → ∀ a b, Rj j a b → S a b) :
    ∀ (fuel : Nat) (listed : Array Bool) (a : Act) (w : World),
      (∀ j oj, ops[j]? = some oj → j ≠ i → listed.getD j true = false → (∀ e ∈ oj.after, Region.binds md e = true → e.on ≠ i) → oi.apart ops oj = true) →
      i ∈ Region.ready md ops listed → YieldsF P ops S w oi v a →
      wpW P md ops Q Rj fuel (listed.setIfInBounds i true) (a.put oi.dst v) w → wpW P md ops Q Rj (fuel + 1) listed a w := by
  intro fuel
  induction fuel with
  | zero =>
    intro listed a w _ hrd hy H
    refine ⟨fun h => (by rw [h] at hrd; cases hrd), fun j hj => ?_⟩
    by_cases hji : j = i
    · subst hji; exact hy.wpOp hi (hr _) ⟨hRr _ _, H⟩
    · have := ready_mono hj hji
      rw [H.1] at this
      cases this
  | succ fuel ih =>
    intro listed a w hfree hrd hy H
    refine ⟨fun h => (by rw [h] at hrd; cases hrd), fun j hj => ?_⟩
    by_cases hji : j = i
    · subst hji; exact hy.wpOp hi (hr _) ⟨hRr _ _, H⟩
    · have h1 := H.2 j (ready_mono hj hji)
      obtain ⟨hjun, oj, hoj, hall⟩ := mem_ready.1 hj
      have hnot : ∀ e ∈ oj.after, Region.binds md e = true → e.on ≠ i := fun e he hb heq => by
        have h1 := hall e he hb
        have h0 := (mem_ready.1 hrd).1
        rw [heq] at h1
        rcases Nat.lt_or_ge i listed.size with h' | h'
        · simp [h'] at h0 h1; rw [h0] at h1; cases h1
        · simp [Array.getElem?_eq_none h'] at h1
      have h2 := wpOp_putF hoj (hfree j oj hoj hji hjun hnot) (fun cs b => hsel i oi cs b hi) (fun cs b => hsel j oj cs b hoj) hQ hy h1
      have hfree' : ∀ k ok, ops[k]? = some ok → k ≠ i → (listed.setIfInBounds j true).getD k true = false →
          (∀ e ∈ ok.after, Region.binds md e = true → e.on ≠ i) → oi.apart ops ok = true := fun k ok hk hki hun hno => by
        refine hfree k ok hk hki ?_ hno
        by_cases hjk : j = k
        · subst hjk; exact hjun
        · rw [getD_set_ne true hjk] at hun; exact hun
      refine wpOp_mono (fun a' w' h3 => ⟨h3.2.1, ih (listed.setIfInBounds j true) a' w' hfree' (ready_mono hrd (Ne.symm hji)) (h3.1.later ht (hcond j oj hoj hji hnot _ _ h3.2.1)) ?_⟩) h2
      rw [Array.setIfInBounds_comm _ _ hji]
      exact h3.2.2
/-- Does every writer wait for operation i? -/
def hardB (md : Region.Mode) (ops : Array Oper) (Wr : List Nat) (i : Nat) : Bool :=
  Wr.all fun j => j == i || match ops[j]? with
    | some o => o.after.any fun e => Region.binds md e && e.on == i
    | none => true
/-- A writer goes on by R, the others by R0. -/
def Rel2 (Wr : List Nat) (R0 R : World → World → Prop) (j : Nat) (a b : World) : Prop := if Wr.contains j = true then R a b else R0 a b
theorem wpW_ord {R0 R : World → World → Prop} {Wr : List Nat} (h0 : ∀ a b, R0 a b → S a b) (hr : ∀ w, S w w) (ht : ∀ a b c, S a b → S b c → S a c) (hRr : ∀ i w, Rel2 Wr R0 R i w w)
    {w : World} (hs : Region.noSelect ops = true) (hQ : ∀ d v c a w, Q (.panic c) (Act.put a d v) w → Q (.panic c) a w) {fuel : Nat} {Q' : Act → Prop} : ∀ (ord : List Nat) (l : List Oper) (listed : Array Bool) (a : Act),
    (∀ i ∈ ord, (∀ a b, R a b → S a b) ∨ hardB md ops Wr i = true) →
    ord.map (fun i => ops[i]?) = l.map some → ordF md ops ord listed = true → wpQF P ops S w Q' l a → (∀ a', Q' a' → wpW P md ops Q (Rel2 Wr R0 R) fuel (listAll ord listed) a' w) →
    wpW P md ops Q (Rel2 Wr R0 R) (fuel + ord.length) listed a w
  | [], [], _, a, _, _, _, h, hq => hq a h
  | [], _ :: _, _, _, _, h, _, _, _ => by simp at h
  | _ :: _, [], _, _, _, h, _, _, _ => by simp at h
  | i :: ord, o :: l, listed, a, hh, hl, hB, h, hq => by
    simp only [List.map_cons, List.cons.injEq] at hl
    simp only [ordF, Bool.and_eq_true] at hB
    obtain ⟨⟨hrd, hf⟩, hB'⟩ := hB
    have hcond : ∀ j oj, ops[j]? = some oj → j ≠ i → (∀ e ∈ oj.after, Region.binds md e = true → e.on ≠ i) → ∀ a b, Rel2 Wr R0 R j a b → S a b := by
      intro j oj hoj hji hnot a b hab
      unfold Rel2 at hab
      split at hab
      · rename_i hc
        rcases hh i (by simp) with hR | hhard
        · exact hR a b hab
        · exfalso
          unfold hardB at hhard
          have h1 := List.all_eq_true.1 hhard j (by simpa using hc)
          rw [hoj] at h1
          simp only [Bool.or_eq_true, beq_iff_eq] at h1
          rcases h1 with h1 | h1
          · exact hji h1
          · obtain ⟨m, hm, he⟩ := Array.any_eq_true.1 h1
            simp only [Bool.and_eq_true, beq_iff_eq] at he
            exact hnot _ (Array.getElem_mem hm) he.1 he.2
      · exact h0 a b hab
    have step : ∀ v, YieldsF P ops S w o v a → wpQF P ops S w Q' l (a.put o.dst v) → wpW P md ops Q (Rel2 Wr R0 R) (fuel + (ord.length + 1)) listed a w := fun v hy hK =>
      wpW_first hr ht hRr hl.1 (Region.noSelect_spec hs) (hQ _ _) hcond _ listed a w (Region.free_spec hl.1 hf) (by simpa using hrd) hy (wpW_ord h0 hr ht hRr hs hQ ord l _ _ (fun k hk => hh k (by simp [hk])) hl.2 hB' hK hq)
    unfold wpQF at h
    split at h
    · rename_i hw
      obtain ⟨v, hv, hK⟩ := h
      exact step v (.inl ⟨hw, hv⟩) hK
    · rename_i hw
      exact step undef (.inr ⟨by simpa using hw, rfl⟩) h
theorem wpW_done {listed : Array Bool} {a : Act} {w : World} (hrd : Region.ready md ops listed = []) (h : Q .normal a w) : ∀ fuel, wpW P md ops Q Rj fuel listed a w
  | 0 => ⟨hrd, h⟩
  | _ + 1 => ⟨fun _ => h, fun i hi => by rw [hrd] at hi; cases hi⟩
theorem wpW_step (i : Nat) {L : List Oper} {o : Oper} {rest : List Oper} {fuel : Nat} {listed : Array Bool} {a : Act} {w : World} (hd : L.drop i = o :: rest) (hrd : Region.ready md L.toArray listed = [i])
    (h : ∀ K : Act → World → Prop, (∀ a'' w'', Rj i w w'' → wpW P md L.toArray Q Rj fuel (listed.setIfInBounds i true) a'' w'' → K a'' w'') →
      if Region.wanted o (yielded L.toArray a.tmps) then o.wp P a w K Q else K (a.put o.dst undef) w) : wpW P md L.toArray Q Rj (fuel + 1) listed a w := by
  refine ⟨fun h0 => (by rw [h0] at hrd; cases hrd), fun j hj => ?_⟩
  rw [hrd] at hj
  obtain rfl : j = i := by simpa using hj
  have h1 := h (fun a' w'' => Rj j w w'' ∧ wpW P md L.toArray Q Rj fuel (listed.setIfInBounds j true) a' w'') (fun _ _ h2 h3 => ⟨h2, h3⟩)
  unfold wpOp
  simp only [at_drop hd]
  split
  · rename_i hw; rw [if_pos hw] at h1; exact .inl h1
  · rename_i hw; rw [if_neg hw] at h1; exact h1
end
/-- What lies below block number S stays, but for some blocks: the writers' relation; the others turn nothing below S. -/
def RelS (Wr : List Nat) (S : Nat) (B : Nat → Prop) : Nat → World → World → Prop := Rel2 Wr (KeptS S (fun _ => False)) (KeptS S B)
theorem relS_refl (Wr : List Nat) (S : Nat) (B : Nat → Prop) (i : Nat) (w : World) : RelS Wr S B i w w := by
  unfold RelS Rel2
  split
  · exact keptS_refl _ _ _
  · exact keptS_refl _ _ _
theorem relS_of {Wr : List Nat} {S : Nat} {B : Nat → Prop} {i : Nat} {a b : World} (hw : Wr.contains i = true) (h : KeptS S B a b) : RelS Wr S B i a b := by
  unfold RelS Rel2
  rw [if_pos hw]
  exact h
theorem keptS_more {S : Nat} {B : Nat → Prop} {a b : World} (h : KeptS S (fun _ => False) a b) : KeptS S B a b := ⟨h.os, h.tape, h.output, h.size, fun k hk _ => h.block k hk id⟩
section
variable {P : Program} {Q : Exit → Act → World → Prop} {md : Region.Mode}
/-- The operations s .. s + k - 1 are taken first; what they read stays whatever is written. -/
theorem wpWS_seg (Wr : List Nat) (S : Nat) (B : Nat → Prop) (s k : Nat) {w : World} {L : List Oper} (hs : Region.noSelect L.toArray = true) (hQ : ∀ d v c a w, Q (.panic c) (Act.put a d v) w → Q (.panic c) a w) {fuel : Nat} {listed : Array Bool} {a : Act}
    (hl : Nat.ble (s + k) L.length = true) (hB : ordF md L.toArray (List.range' s k) listed = true) (h : wpQF P L.toArray (KeptS S B) w (fun a' => wpW P md L.toArray Q (RelS Wr S B) fuel (listAll (List.range' s k) listed) a' w) ((L.drop s).take k) a) :
    wpW P md L.toArray Q (RelS Wr S B) (fuel + k) listed a w := by
  have h1 := wpW_ord (S := KeptS S B) (R0 := KeptS S (fun _ => False)) (R := KeptS S B) (Wr := Wr) (fun _ _ => keptS_more) (keptS_refl S B) (keptS_trans S B) (relS_refl Wr S B) hs hQ (fuel := fuel) (List.range' s k) ((L.drop s).take k) listed a (fun _ _ => .inl fun _ _ h => h) (seg_map L k s (Nat.le_of_ble_eq_true hl)) hB h (fun _ h => h)
  rwa [List.length_range'] at h1
/-- .. and every writer waits for them: they read as if nothing were written. -/
theorem wpWH_seg (Wr : List Nat) (S : Nat) (B : Nat → Prop) (s k : Nat) {w : World} {L : List Oper} (hs : Region.noSelect L.toArray = true) (hQ : ∀ d v c a w, Q (.panic c) (Act.put a d v) w → Q (.panic c) a w) {fuel : Nat} {listed : Array Bool} {a : Act}
    (hl : Nat.ble (s + k) L.length = true) (hB : ordF md L.toArray (List.range' s k) listed = true) (hH : (List.range' s k).all (hardB md L.toArray Wr) = true) (h : wpQF P L.toArray (KeptS S (fun _ => False)) w (fun a' => wpW P md L.toArray Q (RelS Wr S B) fuel (listAll (List.range' s k) listed) a' w) ((L.drop s).take k) a) :
    wpW P md L.toArray Q (RelS Wr S B) (fuel + k) listed a w := by
  have hh : ∀ i ∈ List.range' s k, (∀ a b, KeptS S B a b → KeptS S (fun _ => False) a b) ∨ hardB md L.toArray Wr i = true := fun i hi => .inr (List.all_eq_true.1 hH i hi)
  have h1 := wpW_ord (md := md) (S := KeptS S (fun _ => False)) (R0 := KeptS S (fun _ => False)) (R := KeptS S B) (Wr := Wr) (fun _ _ h => h) (keptS_refl S _) (keptS_trans S _) (relS_refl Wr S B) hs hQ (fuel := fuel) (List.range' s k) ((L.drop s).take k) listed a hh (seg_map L k s (Nat.le_of_ble_eq_true hl)) hB h (fun _ h => h)
  rwa [List.length_range'] at h1
theorem wp_region_W {id : Nat} {a : Act} {w : World} {l : List Oper} (Wr : List Nat) (S : Nat) (B : Nat → Prop) (hm : P.follows .mixedOrders = true)
    (h : ∀ wd, Below w.heap.size w wd → wpW P .any l.toArray Q (RelS Wr S B) l.length (Array.replicate l.length false) a wd) : (Code.region id l.toArray true).wp P Q a w := by
  refine wp_region_any hm ?_
  have := wpAny_of_W l.length (Array.replicate l.length false) a w.drew (h _ (Below.refl _ _).drew)
  simpa using this
end
end Go.Proofs.YtdneeablghlemaaGreatDoor
/- A drawn region some of whose operations may turn anything, each waiting for what is read (they are named); the others go on by a relation. No condition. -/
namespace Go.Proofs.YtdneeablghlemaaGreatDoor
open Go.RowKit
def RelY (Wr : List Nat) (R : World → World → Prop) : Nat → World → World → Prop := Rel2 Wr R (fun _ _ => True)
theorem relY_of {Wr : List Nat} {R : World → World → Prop} {i : Nat} {a b : World} (h : R a b) : RelY Wr R i a b := by
  unfold RelY Rel2
  split
  · trivial
  · exact h
theorem relY_wr {Wr : List Nat} {R : World → World → Prop} {i : Nat} {a b : World} (h : Wr.contains i = true) : RelY Wr R i a b := by
  unfold RelY Rel2
  rw [if_pos h]
  trivial
section
variable {P : Program} {Q : Exit → Act → World → Prop} {md : Region.Mode}
theorem wpY_seg (Wr : List Nat) (R : World → World → Prop) [hR : IsRel R] (s k : Nat) {w : World} {L : List Oper} (hs : Region.noSelect L.toArray = true) (hQ : ∀ d v c a w, Q (.panic c) (Act.put a d v) w → Q (.panic c) a w) {fuel : Nat} {listed : Array Bool} {a : Act}
    (hl : Nat.ble (s + k) L.length = true) (hB : ordF md L.toArray (List.range' s k) listed = true) (hH : (List.range' s k).all (hardB md L.toArray Wr) = true) (h : wpQF P L.toArray R w (fun a' => wpW P md L.toArray Q (RelY Wr R) fuel (listAll (List.range' s k) listed) a' w) ((L.drop s).take k) a) :
    wpW P md L.toArray Q (RelY Wr R) (fuel + k) listed a w := by
  have hh : ∀ i ∈ List.range' s k, (∀ a b, (fun _ _ => True : World → World → Prop) a b → R a b) ∨ hardB md L.toArray Wr i = true := fun i hi => .inr (List.all_eq_true.1 hH i hi)
  have h1 := wpW_ord (md := md) (S := R) (R0 := R) (R := fun _ _ => True) (Wr := Wr) (fun _ _ h => h) hR.refl hR.trans (fun i w => relY_of (hR.refl w)) hs hQ (fuel := fuel) (List.range' s k) ((L.drop s).take k) listed a hh (seg_map L k s (Nat.le_of_ble_eq_true hl)) hB h (fun _ h => h)
  rwa [List.length_range'] at h1
theorem wp_region_Y {id : Nat} {a : Act} {w : World} {l : List Oper} (Wr : List Nat) (R : World → World → Prop) (hm : P.follows .mixedOrders = true)
    (h : ∀ wd, Below w.heap.size w wd → wpW P .any l.toArray Q (RelY Wr R) l.length (Array.replicate l.length false) a wd) : (Code.region id l.toArray true).wp P Q a w := by
  refine wp_region_any hm ?_
  have := wpAny_of_W l.length (Array.replicate l.length false) a w.drew (h _ (Below.refl _ _).drew)
  simpa using this
end
end Go.Proofs.YtdneeablghlemaaGreatDoor
/- A drawn region in which several operations may come up: each is carried out as in a walk. No condition. -/
namespace Go.Proofs.YtdneeablghlemaaGreatDoor
open Go.RowKit
section
variable {P : Program} {Q : Exit → Act → World → Prop} {md : Region.Mode} {R : World → World → Prop}
instance mach_rel (B : Nat) : IsRel (Below B) := ⟨Below.refl B, fun _ _ _ h k => h.trans k⟩
theorem wpF_of (S : List Nat) {L : List Oper} {fuel : Nat} {listed : Array Bool} {a : Act} {w : World} (hrd : Region.ready md L.toArray listed = S) (hne : S ≠ []) (h : ∀ i ∈ S, wpOp P L.toArray Q i (fun a' w'' => R w w'' ∧ wpF P md L.toArray Q R fuel (listed.setIfInBounds i true) a' w'') a w) : wpF P md L.toArray Q R (fuel + 1) listed a w :=
  ⟨fun h0 => absurd (hrd ▸ h0) hne, fun i hi => h i (hrd ▸ hi)⟩
theorem wpOp_one (i : Nat) {L : List Oper} {o : Oper} {rest : List Oper} {fuel : Nat} {listed : Array Bool} {a : Act} {w : World} (hd : L.drop i = o :: rest)
    (h : ∀ K : Act → World → Prop, (∀ a'' w'', R w w'' → wpF P md L.toArray Q R fuel (listed.setIfInBounds i true) a'' w'' → K a'' w'') →
      if Region.wanted o (yielded L.toArray a.tmps) then o.wp P a w K Q else K (a.put o.dst undef) w) : wpOp P L.toArray Q i (fun a' w'' => R w w'' ∧ wpF P md L.toArray Q R fuel (listed.setIfInBounds i true) a' w'') a w := by
  have h1 := h (fun a' w'' => R w w'' ∧ wpF P md L.toArray Q R fuel (listed.setIfInBounds i true) a' w'') (fun _ _ h2 h3 => ⟨h2, h3⟩)
  unfold wpOp
  simp only [at_drop hd]
  split
  · rename_i hw; rw [if_pos hw] at h1; exact .inl h1
  · rename_i hw; rw [if_neg hw] at h1; exact h1
end
end Go.Proofs.YtdneeablghlemaaGreatDoor
/- octet.Set where the number lies within: the bytes with that number at its place, in a row of the call's own. Conditions: 1 to 8 bytes within, sizes below 2^39. -/
namespace Go.Proofs.YtdneeablghlemaaGreatDoor
open Go.RowKit Go.ChangeShapes Go.WideShapes Go.ChangeAt Go.Deep
def setB (xs : List UInt8) (p : Nat) (ys : List UInt8) : List UInt8 := xs.take p ++ (ys ++ xs.drop (p + ys.length))
theorem setB_length (xs : List UInt8) (p : Nat) (ys : List UInt8) (h : p + ys.length ≤ xs.length) : (setB xs p ys).length = xs.length := by simp [setB]; omega
theorem OwnB.row {w : World} {base : Nat} {A : Option Addr} {n c : Nat} {xs : List UInt8} (h : OwnB w base (.slice A n c) xs) (hn : 0 < n) :
    ∃ g cur, A = some ⟨g, 0, none⟩ ∧ base ≤ g ∧ w.heap[g]? = some (.cells (List.toArray cur) 5 (0, 0)) ∧ cur.length = c ∧ cur.take n = xs.map u8v ∧ n ≤ c ∧ c ≤ maxLen ∧ xs.length = n := by
  have hl := h.reads.1
  rcases h.2 with ⟨e, _⟩ | ⟨g, cap, cur, e, hg, hh, hn', hm, hs, ht⟩
  · cases e
    omega
  · cases e
    exact ⟨g, cur.toList, rfl, hg, by simpa using hh, by simpa using hs, by simpa [hl] using ht, hn', hm, hl⟩
theorem own_of_row {w : World} {base g n c : Nat} {cur : List Value} {xs : List UInt8} (hg : base ≤ g) (hh : w.heap[g]? = some (.cells cur.toArray 5 (0, 0))) (hc : cur.length = c) (ht : cur.take n = xs.map u8v) (hn : n ≤ c) (hm : c ≤ maxLen) (hl : xs.length = n) :
    OwnB w base (.slice (some ⟨g, 0, none⟩) n c) xs := by
  subst hl
  exact ⟨by simp, .inr ⟨g, c, cur.toArray, rfl, hg, hh, hn, hm, by simpa using hc, by simpa using ht⟩⟩
theorem splice_take (cur : List Value) (xs ys : List UInt8) (n p : Nat) (ht : cur.take n = xs.map u8v) (_hn : n ≤ cur.length) (hl : xs.length = n) (h : p + ys.length ≤ n) : (splice cur p (ys.map u8v)).take n = (setB xs p ys).map u8v := by
  have hc : cur = xs.map u8v ++ cur.drop n := by rw [← ht, List.take_append_drop]
  have e1 : cur.take p = (xs.take p).map u8v := by
    rw [hc, List.take_append_of_le_length (by rw [List.length_map]; omega), List.map_take]
  have e2 : cur.drop (p + ys.length) = (xs.drop (p + ys.length)).map u8v ++ cur.drop n := by
    conv => lhs; rw [hc]
    rw [List.drop_append_of_le_length (by rw [List.length_map]; omega), List.map_drop]
  unfold splice setB
  rw [List.length_map, e1, e2, List.map_append, List.map_append, ← List.append_assoc, ← List.append_assoc, ← List.append_assoc]
  rw [List.take_append_of_le_length (by simp; omega), List.take_of_length_le (by simp; omega)]
set_option maxHeartbeats 2000000 in
theorem set_in (A : Option Addr) (n c : Nat) (xs : List UInt8) (p N k : Nat) (pi Ni ki : Int) (hpi : pi = (p : Int)) (hNi : Ni = (N : Int)) (hki : ki = (k : Int)) (w : World) (hx : IsB w w.heap.size A n xs) (hn : n ≤ 549755813888) (hp : p + k ≤ n) (hk : k ≤ 8) (hk0 : 0 < k) (hN : N < 18446744073709551616) :
    Calls Tryz.prog 202 #[.slice A n c, .int .i64 pi, .int .u64 Ni, .int .i64 ki] w fun e w' => ∃ v, e = .returned v ∧ OwnB w' w.heap.size v (setB xs p (beB N k)) ∧ Below w.heap.size w w' := by
  subst hpi hNi hki
  go_enter Tryz.func202, Tryz.ntmps202
  go_wp2_with (at_builtin; refine wpl_src_bv rfl _ _ rfl w.heap.size (.slice none 0 0) [] xs A n c w.heap.size rfl rfl (OwnB.nil _ _) hx (Nat.le_refl _) ?_ ?_)
  · simp; omega
  intro v1 w1 hown1 hg1
  have hb1 := hg1.belowNil
  obtain ⟨A1, c1, rfl, hc1, hm1, hi1⟩ := hown1.form
  rw [hx.1] at hown1 hc1 hi1 ⊢
  obtain ⟨g, cur, rfl, hgb, hh, hcl, htk, _, _, hxl⟩ := hown1.row (by omega)
  have i1 : (p : Int) ≤ (n : Int) := by omega
  have i2 : (p : Int) ≤ (n : Int) - (k : Int) := by omega
  have i3 : (k : Int) ≤ 8 := by omega
  replace hown1 := hide hown1
  replace hg1 := hide hg1
  replace hb1 := hide hb1
  replace hi1 := hide hi1
  replace hh := hide hh
  replace hcl := hide hcl
  replace htk := hide htk
  replace hxl := hide hxl
  replace hx := hide hx
  have hne : ¬ c1 = p := by omega
  go_wp2_with fail
  refine wp_region_L (by kernel_rfl) ?_
  refine wpE_seg 0 5 (fuel := 2) (by kernel_rfl) (fun d _ _ _ _ h => by cases d <;> exact h) (by kernel_rfl) (by kernel_rfl) ?_
  simp only [List.drop_zero, List.take_succ_cons, List.take_zero]
  repeat (refine wpQE_step (fun K hK => ?_); go_simp; (try go_bits); refine hK _ ?_; clear hK K)
  refine wpQE_nil ?_
  refine wpE_step 5 (fuel := 1) rfl (by kernel_rfl) (fun l K hK => ?_)
  go_simp
  go_at_call 21
  refine (put_lit _ _ N k rfl rfl l.w.heap.size _ [] _ (OwnB.nil _ _) (Nat.le_refl _) hN hk (by simp)).mono ?_
  rintro e w3 ⟨v2, rfl, hown2, hg2⟩
  have hb2 := hg2.belowNil
  refine hK _ _ hb2 ?_
  clear hK K
  obtain ⟨A2, c2, rfl, hc2, hm2, hi2⟩ := hown2.form
  simp only [List.nil_append, beB_length] at hi2 hc2 ⊢
  refine wpE_end (by kernel_rfl) (fun l2 => ?_)
  refine wpT_step 6 rfl (by kernel_rfl) (fun K hK => ?_)
  have hi4 := hi2.later l2
  obtain ⟨b2, off2, rfl, hbl2, hcs2⟩ := hi4.vals.2 (by omega)
  have hz1 := hg1.out.grown.size
  have hgl : g < w1.heap.size := (Array.getElem?_eq_some_iff.1 hh.out).1
  have hh4 : l2.w.heap[g]? = some (.cells cur.toArray 5 (0, 0)) := blk_below l2.hb (by have := l.hb.size; have := hb2.size; omega) (blk_below hb2 (by have := l.hb.size; omega) (blk_below l.hb hgl hh.out))
  have hb4 : Below w.heap.size w l2.w := ((hb1.out.trans (l.hb.mono hz1)).trans (hb2.mono (by have := l.hb.size; omega))).trans (l2.hb.mono (by have := l.hb.size; have := hb2.size; omega))
  refine step_copy_splice rfl _ _ _ _ rfl 5 Tryz.underlying40 (by kernel_rfl) _ _ _ _ _ _ rfl rfl g p cur 5 hh4 ((beB N k).map u8v) ?_ ?_ ?_ (u8v_one _) w.heap.size w hb4 hgb ?_
  · rw [List.length_map, beB_length]
    exact (Nat.min_eq_left (by omega)).symm
  · intro _
    refine ⟨rfl, _, rfl, fun j v hj => ?_⟩
    obtain ⟨hj', rfl⟩ := List.getElem?_eq_some_iff.1 hj
    rw [show Addr.add ⟨b2, off2, none⟩ j = (⟨b2, off2 + j, none⟩ : Addr) by unfold Addr.add; split <;> simp_all]
    exact hcs2 j hj'
  · rw [List.length_map, beB_length, hcl.out]; omega
  intro w5 hh5 hb5
  refine hK _ _ ?_
  clear hK K
  refine wpT_done (by kernel_rfl) ?_ 0
  replace hcs2 := hide hcs2
  replace hh4 := hide hh4
  replace hb4 := hide hb4
  replace hb5 := hide hb5
  go_wp2_with fail
  go_ret
  refine ⟨_, rfl, own_of_row hgb hh5.out ?_ (splice_take cur xs (beB N k) n p htk.out (by rw [hcl.out]; exact hc1) hxl.out (by rw [beB_length]; exact hp)) hc1 hm1 (by rw [setB_length _ _ _ (by rw [beB_length, hxl.out]; exact hp), hxl.out]), hb5.out⟩
  rw [length_splice _ _ _ (by rw [List.length_map, beB_length, hcl.out]; omega), hcl.out]
end Go.Proofs.YtdneeablghlemaaGreatDoor
