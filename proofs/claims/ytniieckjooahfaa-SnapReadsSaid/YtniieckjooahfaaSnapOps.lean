/- Ops as a slice that reads as a list, and as it is opened. No condition. -/
import Derived.Test.YtniieckjooahfaaOpen
import Derived.Test.YtniieckjooahfaaClone
import Derived.Test.YtniieckjooahfaaSnapPlain
namespace Go.Proofs.Ytniieckjooahfaa
open Go.RowKit Go.ChangeShapes Go.WideShapes Go.ChangeAt Go.Deep
namespace Snap
/-- An op, and where its bytes lie. -/
structure OpD where
  o : Op
  A : Option Addr
  c : Nat
/-- Its cells. -/
def OpD.cs (e : OpD) : List Value := [.int .i64 e.o.k, .slice e.A e.o.xs.length e.c, .string (str e.o.s), .int .i64 e.o.h, .int .i64 e.o.n, .bool e.o.up]
/-- It as a value. -/
def OpD.v (e : OpD) : Value := .agg #[.int .i64 e.o.k, .slice e.A e.o.xs.length e.c, .string (str e.o.s), .int .i64 e.o.h, .int .i64 e.o.n, .bool e.o.up]
def cells (es : List OpD) : List Value := es.flatMap OpD.cs
theorem cells_length (es : List OpD) : (cells es).length = es.length * 6 := by
  induction es with
  | nil => rfl
  | cons e es ih => simp only [cells, List.flatMap_cons, List.length_append, OpD.cs, List.length_cons, List.length_nil] at ih ⊢; omega
theorem cells_get (es : List OpD) : ∀ (i : Nat) (e : OpD), es[i]? = some e → ∀ j < 6, (cells es)[i * 6 + j]? = e.cs[j]? := by
  induction es with
  | nil => intro i e h; simp at h
  | cons e es ih =>
    intro i x h j hj
    have hc : cells (e :: es) = e.cs ++ cells es := rfl
    have hl : e.cs.length = 6 := rfl
    rcases i with _ | i
    · have : e = x := by simpa using h
      subst this
      rw [hc, Nat.zero_mul, Nat.zero_add, List.getElem?_append_left (by omega)]
    · have h1 := ih i x (by simpa using h) j hj
      rw [hc, List.getElem?_append_right (by omega), hl, show (i + 1) * 6 + j - 6 = i * 6 + j by omega]
      exact h1
/-- The op's bytes lie below block B. -/
def OkD (w : World) (B : Nat) (e : OpD) : Prop := IsB w B e.A e.o.xs.length e.o.xs ∧ e.o.xs.length ≤ e.c ∧ e.c ≤ maxLen ∧ e.o.s.length ≤ maxLen
def IsO (w : World) (B : Nat) (A : Option Addr) (n : Nat) (es : List OpD) : Prop := es.length = n ∧ IsV w B 6 A n (cells es) ∧ ∀ e ∈ es, OkD w B e
section
variable {w w' : World} {B B' n : Nat} {A : Option Addr} {es : List OpD}
theorem OkD.below {e : OpD} (h : OkD w B e) (hb : Below B w w') : OkD w' B e := ⟨h.1.below hb, h.2⟩
theorem OkD.more {e : OpD} (h : OkD w B e) (hB : B ≤ B') : OkD w B' e := ⟨h.1.more hB, h.2⟩
theorem OkD.on {e : OpD} (h : OkD w w.heap.size e) (hb : Below w.heap.size w w') : OkD w' w'.heap.size e := (h.below hb).more hb.size
theorem IsO.nil (w : World) (B : Nat) (A : Option Addr) : IsO w B A 0 [] := ⟨rfl, IsV.nil _ _ _ _, fun _ h => by cases h⟩
theorem IsO.below (h : IsO w B A n es) (hb : Below B w w') : IsO w' B A n es := ⟨h.1, h.2.1.below hb, fun e he => (h.2.2 e he).below hb⟩
theorem IsO.more (h : IsO w B A n es) (hB : B ≤ B') : IsO w B' A n es := ⟨h.1, h.2.1.more hB, fun e he => (h.2.2 e he).more hB⟩
theorem IsO.on (h : IsO w w.heap.size A n es) (hb : Below w.heap.size w w') : IsO w' w'.heap.size A n es := (h.below hb).more hb.size
theorem IsO.later (h : IsO w w.heap.size A n es) (l : Later w) : IsO l.w l.w.heap.size A n es := h.on l.hb
theorem IsO.alloc (h : IsO w w.heap.size A n es) (o : Obj) : IsO (w.alloc o) (w.alloc o).heap.size A n es := h.on ((Below.refl _ _).alloc (Nat.le_refl _) o)
/-- One of them: where it lies, its cells. -/
theorem IsO.at (h : IsO w B A n es) {i : Nat} (hi : i < n) : ∃ b off e, A = some ⟨b, off, none⟩ ∧ b < B ∧ es[i]? = some e ∧ OkD w B e ∧
    w.cell? ⟨b, off + i * 6, none⟩ = some (.int .i64 e.o.k) ∧ w.cell? ⟨b, off + i * 6 + 1, none⟩ = some (.slice e.A e.o.xs.length e.c) ∧ w.cell? ⟨b, off + i * 6 + 2, none⟩ = some (.string (str e.o.s)) ∧
    w.cell? ⟨b, off + i * 6 + 3, none⟩ = some (.int .i64 e.o.h) ∧ w.cell? ⟨b, off + i * 6 + 4, none⟩ = some (.int .i64 e.o.n) ∧ w.cell? ⟨b, off + i * 6 + 5, none⟩ = some (.bool e.o.up) := by
  obtain ⟨hl, hv, hp⟩ := h
  obtain ⟨b, off, e, hb, hc⟩ := hv.2 (by omega)
  have hil : i < es.length := by omega
  have hg := cells_get es i _ (List.getElem?_eq_getElem hil)
  have hcl := cells_length es
  have key : ∀ j < 6, ∀ v, es[i].cs[j]? = some v → w.cell? ⟨b, off + i * 6 + j, none⟩ = some v := by
    intro j hj v hv
    have h1 := hg j hj
    rw [hv] at h1
    obtain ⟨hlt, e1⟩ := List.getElem?_eq_some_iff.1 h1
    rw [Nat.add_assoc, hc _ hlt, e1]
  exact ⟨b, off, es[i], e, hb, List.getElem?_eq_getElem hil, hp _ (List.getElem_mem hil), key 0 (by omega) _ rfl, key 1 (by omega) _ rfl, key 2 (by omega) _ rfl, key 3 (by omega) _ rfl, key 4 (by omega) _ rfl, key 5 (by omega) _ rfl⟩
end
theorem leafsOp : leafsOf Try.prog 5 77 0 = some [(3, 0), (35, 1), (9, 2), (3, 3), (3, 4), (4, 5)] := by kernel_rfl
theorem cellsOp : Try.prog.cellsOf 77 = 6 := by kernel_rfl
theorem info_op : (Try.prog.info? 77).map (fun i => (i.zero, i.size, i.bytes)) = some (some (.agg #[.int .i64 0, .slice none 0 0, .string ByteArray.empty, .int .i64 0, .int .i64 0, .bool false]), 6, 72) := by kernel_rfl
theorem str_data (b : ByteArray) : str b.data.toList = b := by cases b; rfl
theorem str_size (s : List UInt8) : (str s).size = s.length := List.size_toArray
section
variable {H : Type} {enc : TypeId × Value → H} {w : World} {spare : Nat → Bool} {held : Bool}
theorem open_apis {m : Nat} {v : Value} {y : DataW H × List MemPlace} (h : DataW.trod enc Try.prog w 0 spare held m 73 [v] = some y) :
    ∃ A n c es, v = .slice A n c ∧ IsO w w.heap.size A n es ∧ n ≤ c ∧ c ≤ maxLen := by
  obtain ⟨A, n, c, rows, e, hl, hr, hv, h1, h2⟩ := open_rows (size := 6) (fun cs => ∃ e : OpD, cs = e.cs ∧ OkD w w.heap.size e) Try.underlying73 cellsOp (by omega)
    (fun n cs y h hcl => by
      have hlf := trod_leafs cs 5 77 0 _ n y leafsOp (by rw [cellsOp, List.drop_zero, List.take_of_length_le (by omega)]; exact h)
      match cs, hcl with
      | [a, b, c, d, f, g], _ =>
        obtain ⟨_, _, t0⟩ := hlf 3 0 (by simp)
        obtain ⟨_, _, t1⟩ := hlf 35 1 (by simp)
        obtain ⟨_, _, t2⟩ := hlf 9 2 (by simp)
        obtain ⟨_, _, t3⟩ := hlf 3 3 (by simp)
        obtain ⟨_, _, t4⟩ := hlf 3 4 (by simp)
        obtain ⟨_, _, t5⟩ := hlf 4 5 (by simp)
        simp only [List.drop_succ_cons, List.drop_zero, List.take_succ_cons, List.take_zero] at t0 t1 t2 t3 t4 t5
        obtain ⟨k, rfl, _⟩ := open_i64 t0
        obtain ⟨A, n, c, xs, rfl, hx, hn, hc⟩ := open_bytes t1
        obtain ⟨s, e2, _, hs⟩ := DataW.trod_string Try.underlying9 t2
        cases e2
        obtain ⟨hh, rfl, _⟩ := open_i64 t3
        obtain ⟨m, rfl, _⟩ := open_i64 t4
        obtain ⟨u, rfl⟩ := open_bool' t5
        obtain rfl := hx.1
        exact ⟨⟨⟨k, xs, s.data.toList, hh, m, u⟩, A, c⟩, by simp only [OpD.cs, str_data], hx, hn, hc, by simp only; rw [Array.length_toList]; exact hs⟩) h
  have hb : ∃ es : List OpD, es.length = rows.length ∧ rows.flatten = cells es ∧ ∀ e ∈ es, OkD w w.heap.size e := by
    clear hl hv
    induction rows with
    | nil => exact ⟨[], rfl, rfl, fun e he => by cases he⟩
    | cons r rows ih =>
      obtain ⟨es, hes0, hes, hes2⟩ := ih (fun r hr' => hr r (by simp [hr']))
      obtain ⟨_, e, rfl, he⟩ := hr r (by simp)
      refine ⟨e :: es, by simp [hes0], ?_, fun x hx => ?_⟩
      · rw [List.flatten_cons, hes]
        rfl
      · rcases List.mem_cons.1 hx with rfl | hx
        · exact he
        · exact hes2 x hx
  obtain ⟨es, hes0, hes, hes2⟩ := hb
  exact ⟨A, n, c, es, e, ⟨by omega, hes ▸ hv, hes2⟩, h1, h2⟩
end
end Snap
end Go.Proofs.Ytniieckjooahfaa
