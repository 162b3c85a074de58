/- octet.All: numbers of one size, put behind a row of bytes. Conditions: the row is the call's own, at most 8 bytes a number, at most 65536 numbers, sizes below 2^38. -/
import Derived.Test.YtfmmmjaficbchaaQNatFlows2
import Derived.Test.YtfmmmjaficbchaaQNatFlows1
import Derived.Deep.MidRow
import Derived.Laws.CopyOwn
import Derived.Lib.LazyBuf
import Derived.WalkSpells
namespace Go.Proofs.Ytfmmmjaficbchaa
open Go.RowKit Go.ChangeShapes Go.WideShapes Go.ChangeAt Go.Deep
def allB (k : Nat) (ns : List Nat) : List UInt8 := ns.flatMap fun N => beB N k
theorem allB_length (k : Nat) (ns : List Nat) : (allB k ns).length = ns.length * k := by
  induction ns with
  | nil => simp [allB]
  | cons N ns ih => simp only [allB, List.flatMap_cons, List.length_append, beB_length, List.length_cons, Nat.succ_mul] at ih ⊢; omega
theorem allB_take (k : Nat) (ns : List Nat) (j : Nat) (h : j < ns.length) : allB k (ns.take (j + 1)) = allB k (ns.take j) ++ beB ns[j] k := by
  unfold allB
  rw [List.take_succ_eq_append_getElem h, List.flatMap_append]
  simp
def u64v (N : Nat) : Value := .int .u64 (N : Int)
set_option maxHeartbeats 2000000 in
theorem all_any (base : Nat) (v : Value) (xs : List UInt8) (k : Nat) (ki : Int) (hki : ki = (k : Int)) (A : Option Addr) (n c : Nat) (ns : List Nat) (w : World) (hown : OwnB w base v xs) (hbase : base ≤ w.heap.size) (hk : k ≤ 8) (hl : xs.length ≤ 274877906944)
    (B : Nat) (hx : IsV w B 1 A n (ns.map u64v)) (hdis : ∀ b off, A = some ⟨b, off, none⟩ → some b ≠ v.ownBlock) (hBz : B ≤ w.heap.size) (hn : n ≤ 65536) (hN : ∀ N ∈ ns, N < 18446744073709551616) :
    Calls Try.prog 71 #[v, .int .i64 ki, .slice A n c] w fun e w' => ∃ v', e = .returned v' ∧ OwnB w' base v' (xs ++ allB k ns) ∧ Grew w v w' v' := by
  subst hki
  have hnl : ns.length = n := by simpa using hx.1
  go_enter Try.func71, Try.ntmps71
  go_wp2_with fail
  go_loopw [0, 11] (fun u i wr => ∃ j : Nat, j ≤ n ∧ i = .int .i64 (j : Int) ∧ OwnB wr base u (xs ++ allB k (ns.take j)) ∧ Grew w v wr u) (fun _ i _ => n - (intOf i).toNat)
  case atStart => exact ⟨0, Nat.zero_le _, rfl, by simpa [allB] using hown, Grew.refl _ _⟩
  case round =>
    obtain ⟨j, hj, rfl, hu, hg⟩ := hrel
    replace hu := hide hu
    replace hg := hide hg
    by_cases hlt : j < n
    · obtain ⟨b, off, rfl, hbl, hcs⟩ := hx.2 (by omega)
      have hjn : j < ns.length := by omega
      have hcell : wr.cell? ⟨b, off + j, none⟩ = some (u64v ns[j]) := by
        have h1 := hcs j (by rw [List.length_map]; exact hjn)
        rw [List.getElem_map] at h1
        rw [← h1]
        exact World.cell?_of_block (hg.out.grown.block b (by omega) (hdis b off rfl))
      have hNj := hN _ (List.getElem_mem hjn)
      have ht := allB_take k ns j hjn
      obtain ⟨N, hNe⟩ : ∃ N, ns[j] = N := ⟨_, rfl⟩
      rw [hNe] at hcell hNj ht
      clear hcs
      replace hNe := hide hNe
      replace ht := hide ht
      unfold u64v at hcell
      go_wp2_with fail
      refine (put_any base _ _ N k _ hu.out (by have := hg.out.grown.size; omega) hNj hk ?_).mono ?_
      · rw [List.length_append, allB_length, List.length_take]
        have : min j ns.length * k ≤ 65536 * 8 := Nat.mul_le_mul (by omega) hk
        omega
      rintro e w' ⟨v', rfl, hown', hg'⟩
      replace hown' := hide hown'
      replace hg' := hide hg'
      go_wp2_with fail
      exact ⟨⟨j + 1, by omega, by go_num, by rw [ht.out, ← List.append_assoc]; exact hown'.out, hg.out.trans hg'.out⟩, by simp [intOf]; omega⟩
    · have hjn : ns.take j = ns := List.take_of_length_le (by omega)
      go_wp2_with fail
      go_ret
      exact ⟨_, rfl, by rw [← hjn]; exact hu.out, hg.out⟩
end Go.Proofs.Ytfmmmjaficbchaa
/- octet.All over numbers that stand written out. Conditions: as octet.All. -/
namespace Go.Proofs.Ytfmmmjaficbchaa
open Go.RowKit Go.ChangeShapes Go.WideShapes Go.ChangeAt Go.Deep
theorem Grew.ofAlloc {w w' : World} {o : Obj} {v v' : Value} (h : Grew (w.alloc o) v w' v') : Grew w v w' v' :=
  ⟨grown_alloc_left h.grown, h.moved.imp id fun ⟨k, e, hk⟩ => ⟨k, e, by simp at hk; omega⟩⟩
theorem all_lit (base : Nat) (v : Value) (xs : List UInt8) (k : Nat) (ki : Int) (hki : ki = (k : Int)) (ns : List Nat) (vals : List Value) (hv : vals = ns.map u64v) (m c : Nat) (hm : ns.length = m) (t : TypeId) (w : World) (b : Nat) (hb : w.heap.size = b)
    (hown : OwnB w base v xs) (hbase : base ≤ w.heap.size) (hk : k ≤ 8) (hl : xs.length ≤ 274877906944) (hn : m ≤ 65536) (hN : ∀ N ∈ ns, N < 18446744073709551616) :
    Calls Try.prog 71 #[v, .int .i64 ki, .slice (some ⟨b, 0, none⟩) m c] (w.alloc (.cells vals.toArray t)) fun e w' => ∃ v', e = .returned v' ∧ OwnB w' base v' (xs ++ allB k ns) ∧ Grew w v w' v' := by
  subst hv hm hb
  refine (all_any base v xs k ki hki (some ⟨w.heap.size, 0, none⟩) ns.length c ns (w.alloc (.cells (ns.map u64v).toArray t)) (hown.alloc _) (by simp; omega) hk hl (w.heap.size + 1) (IsV.lit w t _ c _ (by simp)) ?_ (by simp) hn hN).mono ?_
  · intro b off e he
    have := (hown.lt b he.symm).2
    cases e
    omega
  · rintro e w' ⟨v', rfl, h1, h2⟩
    exact ⟨v', rfl, h1, h2.ofAlloc⟩
end Go.Proofs.Ytfmmmjaficbchaa
/- A row of the call's own stays when a block below it is written; a struct's cells, stored one by one. No condition. -/
namespace Go.Proofs.Ytfmmmjaficbchaa
open Go.RowKit Go.ChangeShapes Go.WideShapes Go.ChangeAt Go.Deep
theorem owns_not {w : World} {base : Nat} {v : Value} {e : TypeId} {size n : Nat} {xs : List Value} (h : w.ownsRow base e size v n xs) {g : Nat} (hg : g < base) : v.ownBlock = none ∨ v.ownBlock ≠ some g := by
  rcases hob : v.ownBlock with _ | k
  · exact .inl rfl
  · right
    intro e
    have h1 := (World.ownsRow.lt h k hob).1
    cases e
    omega
theorem OwnB.away {w w' : World} {base g : Nat} {v : Value} {xs : List UInt8} (h : OwnB w base v xs) (hg : w.grownBy w' (some g)) (hb : g < base) : OwnB w' base v xs := h.kept hg (owns_not h hb)
theorem store_cell {w : World} {g : Nat} {t : TypeId} {cs : Array Value} (h : w.heap[g]? = some (.cells cs t (0, 0))) (i : Nat) (v : Value) :
    ∃ w', w.setCell ⟨g, i, none⟩ v = w' ∧ w'.heap[g]? = some (.cells (cs.setIfInBounds i v) t (0, 0)) ∧ w.grownBy w' (some g) :=
  ⟨_, rfl, blk_set h i v, grown_set (grown_refl _ _) rfl _⟩
theorem rows_apart {w : World} {base base' : Nat} {v u : Value} {e e' : TypeId} {size n size' n' : Nat} {xs xs' : List Value} (h : w.ownsRow base e size v n xs) (h' : w.ownsRow base' e' size' u n' xs') (hne : e ≠ e') : v.ownBlock = none ∨ v.ownBlock ≠ u.ownBlock := by
  rcases h.2 with ⟨rfl, _⟩ | ⟨g, cap, cur, rfl, hg, hh, _⟩
  · exact .inl rfl
  · rcases h'.2 with ⟨rfl, _⟩ | ⟨g', cap', cur', rfl, hg', hh', _⟩
    · exact .inr (by intro e; cases e)
    · right
      intro e
      have : g = g' := by simpa [Value.ownBlock] using e
      subst this
      rw [hh] at hh'
      simp at hh'
      exact hne hh'.2
theorem row_weaken {w : World} {base base' : Nat} {v : Value} {e : TypeId} {size n : Nat} {xs : List Value} (h : w.ownsRow base e size v n xs) (hb : base' ≤ base) : w.ownsRow base' e size v n xs :=
  ⟨h.1, h.2.imp id fun ⟨g, cap, cur, h1, h2, h3⟩ => ⟨g, cap, cur, h1, Nat.le_trans hb h2, h3⟩⟩
theorem row_on {w w' : World} {base : Nat} {v : Value} {e : TypeId} {size n : Nat} {xs : List Value} (h : w.ownsRow base e size v n xs) (hb : Below w.heap.size w w') : w'.ownsRow base e size v n xs :=
  World.ownsRow.kept h ⟨hb.os, hb.tape, hb.output, hb.size, fun k hk _ => hb.block k hk⟩ (row := none) (by cases v.ownBlock <;> simp)
theorem row_away {w w' : World} {base g : Nat} {v : Value} {e : TypeId} {size n : Nat} {xs : List Value} (h : w.ownsRow base e size v n xs) (hg : w.grownBy w' (some g)) (hb : g < base) : w'.ownsRow base e size v n xs := World.ownsRow.kept h hg (owns_not h hb)
theorem grownBy_far {a b c : World} {g s : Nat} (h : a.grownBy b (some g)) (k : b.grownBy c (some s)) (hs : a.heap.size ≤ s) : a.grownBy c (some g) :=
  ⟨k.os.trans h.os, k.tape.trans h.tape, k.output.trans h.output, Nat.le_trans h.size k.size, fun i hi hne => (k.block i (Nat.lt_of_lt_of_le hi h.size) (fun e => by cases e; omega)).trans (h.block i hi hne)⟩
theorem grownBy_of {a b : World} {g : Nat} (h : Below a.heap.size a b) : a.grownBy b (some g) := ⟨h.os, h.tape, h.output, h.size, fun i hi _ => h.block i hi⟩
/-- A block that is not the row's stays, and stays apart from it. -/
theorem Grew.box {w w' : World} {v v' : Value} {g : Nat} {x : Obj} (h : Grew w v w' v') (hx : w.heap[g]? = some x) (hv : v.ownBlock ≠ some g) : w'.heap[g]? = some x ∧ v'.ownBlock ≠ some g := by
  have hlt : g < w.heap.size := by
    rcases Nat.lt_or_ge g w.heap.size with h1 | h1
    · exact h1
    · rw [Array.getElem?_eq_none h1] at hx; cases hx
  refine ⟨(h.grown.block g hlt (fun e => hv (by first | exact e | exact e.symm))).trans hx, ?_⟩
  rcases h.moved with e | ⟨k, e, hk⟩
  · rw [e]; exact hv
  · rw [e]; intro e'; cases e'; omega
theorem OwnB.off {w : World} {base g : Nat} {v : Value} {xs : List UInt8} (h : OwnB w base v xs) (hg : w.heap.size ≤ g) : v.ownBlock ≠ some g := fun e => by
  have := (h.lt g e).2
  omega
section
variable {w : World} {g : Nat} {t : TypeId} {a0 a1 a2 a3 a4 a5 : Value}
theorem set6at0 (h : w.heap[g]? = some (.cells #[a0, a1, a2, a3, a4, a5] t (0, 0))) (v : Value) : ∃ w', w.setCell ⟨g, 0, none⟩ v = w' ∧ w'.heap[g]? = some (.cells #[v, a1, a2, a3, a4, a5] t (0, 0)) ∧ w.grownBy w' (some g) := store_cell h 0 v
theorem set6at1 (h : w.heap[g]? = some (.cells #[a0, a1, a2, a3, a4, a5] t (0, 0))) (v : Value) : ∃ w', w.setCell ⟨g, 1, none⟩ v = w' ∧ w'.heap[g]? = some (.cells #[a0, v, a2, a3, a4, a5] t (0, 0)) ∧ w.grownBy w' (some g) := store_cell h 1 v
theorem set6at2 (h : w.heap[g]? = some (.cells #[a0, a1, a2, a3, a4, a5] t (0, 0))) (v : Value) : ∃ w', w.setCell ⟨g, 2, none⟩ v = w' ∧ w'.heap[g]? = some (.cells #[a0, a1, v, a3, a4, a5] t (0, 0)) ∧ w.grownBy w' (some g) := store_cell h 2 v
theorem set6at3 (h : w.heap[g]? = some (.cells #[a0, a1, a2, a3, a4, a5] t (0, 0))) (v : Value) : ∃ w', w.setCell ⟨g, 3, none⟩ v = w' ∧ w'.heap[g]? = some (.cells #[a0, a1, a2, v, a4, a5] t (0, 0)) ∧ w.grownBy w' (some g) := store_cell h 3 v
theorem set6at4 (h : w.heap[g]? = some (.cells #[a0, a1, a2, a3, a4, a5] t (0, 0))) (v : Value) : ∃ w', w.setCell ⟨g, 4, none⟩ v = w' ∧ w'.heap[g]? = some (.cells #[a0, a1, a2, a3, v, a5] t (0, 0)) ∧ w.grownBy w' (some g) := store_cell h 4 v
theorem set6at5 (h : w.heap[g]? = some (.cells #[a0, a1, a2, a3, a4, a5] t (0, 0))) (v : Value) : ∃ w', w.setCell ⟨g, 5, none⟩ v = w' ∧ w'.heap[g]? = some (.cells #[a0, a1, a2, a3, a4, v] t (0, 0)) ∧ w.grownBy w' (some g) := store_cell h 5 v
theorem set6all (h : w.heap[g]? = some (.cells #[a0, a1, a2, a3, a4, a5] t (0, 0))) (v0 v1 v2 v3 v4 v5 : Value) : ∃ w', ((((((w.setCell ⟨g, 0, none⟩ v0).setCell ⟨g, 1, none⟩ v1).setCell ⟨g, 2, none⟩ v2).setCell ⟨g, 3, none⟩ v3).setCell ⟨g, 4, none⟩ v4).setCell ⟨g, 5, none⟩ v5) = w' ∧ w'.heap[g]? = some (.cells #[v0, v1, v2, v3, v4, v5] t (0, 0)) ∧ w.grownBy w' (some g) := by
  refine ⟨_, rfl, ?_, ?_⟩
  · exact blk_set (blk_set (blk_set (blk_set (blk_set (blk_set h 0 v0) 1 v1) 2 v2) 3 v3) 4 v4) 5 v5
  · iterate 6 refine grown_set ?_ rfl _
    exact grown_refl _ _
end
end Go.Proofs.Ytfmmmjaficbchaa
/- Plain: bytes, made again of the number that was read of them. No condition. -/
namespace Go.Proofs.Ytfmmmjaficbchaa
theorem of8m {a b : Nat} (h : a % 256 = b % 256) : UInt8.ofNat a = UInt8.ofNat b := by
  apply UInt8.toNat.inj
  rw [UInt8.toNat_ofNat', UInt8.toNat_ofNat']
  omega
theorem beB_snocM (a b : Nat) (hb : b < 256) : ∀ k, beB (a * 256 + b) (k + 1) = beB a k ++ [UInt8.ofNat b]
  | 0 => by
    simp only [beB, List.nil_append, Nat.pow_zero, Nat.div_one]
    rw [of8m (show (a * 256 + b) % 256 = b % 256 by omega)]
  | k + 1 => by
    have ih := beB_snocM a b hb k
    rw [beB, ih, beB, List.cons_append]
    congr 2
    rw [Nat.pow_succ, Nat.mul_comm (256 ^ k) 256, ← Nat.div_div_eq_div_mul]
    congr 1
    omega
theorem beB_beNM (xs : List UInt8) (p : Nat) : ∀ k, p + k ≤ xs.length → beB (beN xs p k) k = (xs.drop p).take k
  | 0, _ => by simp [beB]
  | k + 1, h => by
    have ih := beB_beNM xs p k (by omega)
    have hlt := (xs.getD (p + k) 0).toNat_lt
    rw [beN, beB_snocM _ _ (by omega), ih, List.take_add_one, List.getElem?_drop]
    congr 1
    have h1 : xs[p + k]? = some xs[p + k] := List.getElem?_eq_getElem (by omega)
    simp [List.getD, h1]
end Go.Proofs.Ytfmmmjaficbchaa
/- Rows of the call's own whose elements are one cell each, of whatever type: appended to. Conditions: at most 2^40 elements of at most 16 bytes. -/
namespace Go.Proofs.Ytfmmmjaficbchaa
open Go.RowKit Go.ChangeShapes Go.WideShapes Go.ChangeAt Go.Deep
section
variable {α : Type} {e t : TypeId} {f : α → Value} {w w' : World} {base : Nat} {v : Value}
/-- A row of the call's own, as a list. -/
def OwnR (e : TypeId) (f : α → Value) (w : World) (base : Nat) (v : Value) (xs : List α) : Prop := w.ownsRow base e 1 v xs.length (xs.map f)
/-- A slice that reads as a list. -/
def IsR (f : α → Value) (w : World) (B : Nat) (A : Option Addr) (n : Nat) (xs : List α) : Prop := IsV w B 1 A n (xs.map f)
theorem OwnR.nil (w : World) (base : Nat) : OwnR e f w base (.slice none 0 0) [] := World.ownsRow_nil w base _ 1
theorem OwnR.form {xs : List α} (h : OwnR e f w base v xs) : ∃ A c, v = .slice A xs.length c ∧ xs.length ≤ c ∧ c ≤ maxLen ∧ IsR f w w.heap.size A xs.length xs := own_isv h
theorem OwnR.alloc {xs : List α} (h : OwnR e f w base v xs) (o : Obj) : OwnR e f (w.alloc o) base v xs := World.ownsRow.alloc h o
theorem OwnR.lt {xs : List α} (h : OwnR e f w base v xs) : ∀ k, v.ownBlock = some k → base ≤ k ∧ k < w.heap.size := World.ownsRow.lt h
theorem OwnR.kept {xs : List α} {row : Option Nat} (h : OwnR e f w base v xs) (hg : w.grownBy w' row) (hne : v.ownBlock = none ∨ v.ownBlock ≠ row) : OwnR e f w' base v xs := World.ownsRow.kept h hg hne
theorem OwnR.below {xs : List α} (h : OwnR e f w base v xs) (hb : Below w.heap.size w w') : OwnR e f w' base v xs :=
  h.kept (row := none) ⟨hb.os, hb.tape, hb.output, hb.size, fun k hk _ => hb.block k hk⟩ (by cases v.ownBlock <;> simp)
theorem OwnR.weaken {base' : Nat} {xs : List α} (h : OwnR e f w base v xs) (hb : base' ≤ base) : OwnR e f w base' v xs :=
  ⟨h.1, h.2.imp id fun ⟨g, cap, cur, h1, h2, h3⟩ => ⟨g, cap, cur, h1, Nat.le_trans hb h2, h3⟩⟩
theorem IsR.on {n : Nat} {A : Option Addr} {xs : List α} (h : IsR f w w.heap.size A n xs) (hb : Below w.heap.size w w') : IsR f w' w'.heap.size A n xs := IsV.on h hb
theorem IsR.len {B n : Nat} {A : Option Addr} {xs : List α} (h : IsR f w B A n xs) : xs.length = n := by simpa using h.1
/-- The i-th element. -/
theorem IsR.at {B n : Nat} {A : Option Addr} {xs : List α} (h : IsR f w B A n xs) {i : Nat} (hi : i < n) : ∃ b off x, A = some ⟨b, off, none⟩ ∧ b < B ∧ xs[i]? = some x ∧ w.cell? ⟨b, off + i, none⟩ = some (f x) := by
  have hl := h.len
  obtain ⟨b, off, e, hb, hc⟩ := h.2 (by omega)
  have h1 := hc i (by rw [List.length_map]; omega)
  rw [List.getElem_map] at h1
  exact ⟨b, off, xs[i]'(by omega), e, hb, List.getElem?_eq_getElem (by omega), h1⟩
theorem Grew.belowR {v' : Value} {xs : List α} (h : Grew w v w' v') (hown : OwnR e f w base v xs) (hb : base ≤ w.heap.size) : Below base w w' := below_of_grown h.grown hb fun k hk => (hown.lt k hk).1
variable (hu : Try.prog.underlying t = some (.slice e)) {z : Value} {by_ : Nat} (hi : (Try.prog.info? e).map (fun i => (i.zero, i.size, i.bytes)) = some (some z, 1, by_)) (hz : z.cells.size = 1) (hby : by_ ≤ 16) (h1 : ∀ x, (f x).oneCell' = true)
include hu hi hz hby h1
theorem wp_src_r {o : Oper} {a : Act} {K : Act → World → Prop} {Q : Exit → Act → World → Prop} (s x : Operand)
    (ho : o.op = .call { callee := .builtin .append, args := #[s, x], argTypes := #[t, t] })
    (base : Nat) (v : Value) (xs ys : List α) (A : Option Addr) (m c B : Nat) (hs : a.eval s = v) (hx : a.eval x = .slice A m c) (hown : OwnR e f w base v xs) (hr : IsR f w B A m ys) (hbase : base ≤ w.heap.size) (hb : xs.length + m ≤ 1099511627776)
    (h : ∀ v' w', OwnR e f w' base v' (xs ++ ys) → Grew w v w' v' → K (a.put o.dst v') w') : o.wp Try.prog a w K Q := by
  obtain ⟨i, hi1, hz1, hsz, hb1⟩ := info_parts hi
  have hm : ys.length = m := hr.len
  have hmul : (xs.length + m) * by_ ≤ 140737488355328 := by
    have := Nat.mul_le_mul hb hby
    omega
  refine wp_append_isv w s x t ho base e i z 1 by_ hu hi1 hz1 hsz hb1 hz (by omega) v xs.length (xs.map f) hs hown B A m c (ys.map f) hx hr (fun u hu => by obtain ⟨y, _, rfl⟩ := List.mem_map.1 hu; exact h1 y) (by unfold maxLen; omega) hmul hbase fun v' w' h1 h2 h3 => h v' w' ?_ ⟨h2, moved_mk' h3⟩
  unfold OwnR
  rw [List.map_append, List.length_append, hm]
  exact h1
theorem wpl_src_r {ops : Array Oper} {rest : List Oper} {o : Oper} {a : Act} {Q : Exit → Act → World → Prop} (hgd : o.guard = none) (s x : Operand)
    (ho : o.op = .call { callee := .builtin .append, args := #[s, x], argTypes := #[t, t] })
    (base : Nat) (v : Value) (xs ys : List α) (A : Option Addr) (m c B : Nat) (hs : a.eval s = v) (hx : a.eval x = .slice A m c) (hown : OwnR e f w base v xs) (hr : IsR f w B A m ys) (hbase : base ≤ w.heap.size) (hb : xs.length + m ≤ 1099511627776)
    (h : ∀ v' w', OwnR e f w' base v' (xs ++ ys) → Grew w v w' v' → wpList Try.prog ops Q rest (a.put o.dst v') w') : wpList Try.prog ops Q (o :: rest) a w :=
  wpList_plain hgd fun _ hK => wp_src_r hu hi hz hby h1 s x ho base v xs ys A m c B hs hx hown hr hbase hb fun v' w' h2 h3 => hK _ _ (h v' w' h2 h3)
theorem wpT_src_r {md : Region.Mode} {Q : Exit → Act → World → Prop} {o : Oper} {rest : List Oper} {a : Act} (i : Nat) {L : List Oper} {fuel : Nat} {listed : Array Bool} (hd : L.drop i = o :: rest) (hrd : Region.ready md L.toArray listed = [i]) (hgd : o.guard = none) (s x : Operand)
    (ho : o.op = .call { callee := .builtin .append, args := #[s, x], argTypes := #[t, t] })
    (base : Nat) (v : Value) (xs ys : List α) (A : Option Addr) (m c B : Nat) (hs : a.eval s = v) (hx : a.eval x = .slice A m c) (hown : OwnR e f w base v xs) (hr : IsR f w B A m ys) (hbase : base ≤ w.heap.size) (hb : xs.length + m ≤ 1099511627776)
    (h : ∀ v' w', OwnR e f w' base v' (xs ++ ys) → Grew w v w' v' → wpAny Try.prog md L.toArray Q fuel (listed.setIfInBounds i true) (a.put o.dst v') w') : wpAny Try.prog md L.toArray Q (fuel + 1) listed a w := by
  refine wpT_step i hd hrd fun K hK => ?_
  rw [if_pos (by unfold Region.wanted; rw [hgd])]
  exact wp_src_r hu hi hz hby h1 s x ho base v xs ys A m c B hs hx hown hr hbase hb fun v' w' h2 h3 => hK _ _ (h v' w' h2 h3)
theorem wpl_lit_r {T : TypeId} {vals : List Value} {ops : Array Oper} {rest : List Oper} {o : Oper} {a : Act} {Q : Exit → Act → World → Prop} (hgd : o.guard = none) (s x : Operand)
    (ho : o.op = .call { callee := .builtin .append, args := #[s, x], argTypes := #[t, t] })
    (base : Nat) (v : Value) (xs ys : List α) (m c : Nat) (hs : a.eval s = v) (hx : a.eval x = .slice (some ⟨w.heap.size, 0, none⟩) m c) (hv : vals = ys.map f) (hm : ys.length = m) (hown : OwnR e f w base v xs) (hbase : base ≤ w.heap.size) (hb : xs.length + m ≤ 1099511627776)
    (h : ∀ v' w', OwnR e f w' base v' (xs ++ ys) → Grew w v w' v' → wpList Try.prog ops Q rest (a.put o.dst v') w') : wpList Try.prog ops Q (o :: rest) a (w.alloc (.cells vals.toArray T)) := by
  subst hv hm
  refine wpl_src_r hu hi hz hby h1 hgd s x ho base v xs ys (some ⟨w.heap.size, 0, none⟩) ys.length c (w.heap.size + 1) hs hx (hown.alloc _) (IsV.lit w T _ c _ (by simp)) (by simp; omega) hb fun v' w' h2 h3 => h v' w' h2 ⟨grown_alloc_left h3.grown, ?_⟩
  rcases h3.moved with h4 | ⟨k, h4, h5⟩
  · exact .inl h4
  · exact .inr ⟨k, h4, by simp at h5; omega⟩
end
end Go.Proofs.Ytfmmmjaficbchaa
/- A drawn region whose calls turn rows of the call's own (XRegionF): two operations that may come up, append as a step. No condition. -/
namespace Go.Proofs.Ytfmmmjaficbchaa
open Go.RowKit
section
variable {P : Program} {Q : Exit → Act → World → Prop} {md : Region.Mode} {R : World → World → Prop}
/-- Numbers i and j alone may come up. -/
theorem wpF_two (i j : Nat) {L : List Oper} {oi oj : Oper} {ri rj : List Oper} {fuel : Nat} {listed : Array Bool} {a : Act} {w : World} (hi : L.drop i = oi :: ri) (hj : L.drop j = oj :: rj) (hrd : Region.ready md L.toArray listed = [i, j])
    (h1 : ∀ K : Act → World → Prop, (∀ a'' w'', R w w'' → wpF P md L.toArray Q R fuel (listed.setIfInBounds i true) a'' w'' → K a'' w'') →
      if Region.wanted oi (yielded L.toArray a.tmps) then oi.wp P a w K Q else K (a.put oi.dst undef) w)
    (h2 : ∀ K : Act → World → Prop, (∀ a'' w'', R w w'' → wpF P md L.toArray Q R fuel (listed.setIfInBounds j true) a'' w'' → K a'' w'') →
      if Region.wanted oj (yielded L.toArray a.tmps) then oj.wp P a w K Q else K (a.put oj.dst undef) w) : wpF P md L.toArray Q R (fuel + 1) listed a w := by
  refine ⟨fun h0 => (by rw [h0] at hrd; cases hrd), fun k hk => ?_⟩
  rw [hrd] at hk
  have hk' : k = i ∨ k = j := by simpa using hk
  rcases hk' with rfl | rfl
  · have h3 := h1 (fun a' w'' => R w w'' ∧ wpF P md L.toArray Q R fuel (listed.setIfInBounds k true) a' w'') (fun _ _ h2 h3 => ⟨h2, h3⟩)
    unfold wpOp
    simp only [at_drop hi]
    split
    · rename_i hw; rw [if_pos hw] at h3; exact .inl h3
    · rename_i hw; rw [if_neg hw] at h3; exact h3
  · have h3 := h2 (fun a' w'' => R w w'' ∧ wpF P md L.toArray Q R fuel (listed.setIfInBounds k true) a' w'') (fun _ _ h2 h3 => ⟨h2, h3⟩)
    unfold wpOp
    simp only [at_drop hj]
    split
    · rename_i hw; rw [if_pos hw] at h3; exact .inl h3
    · rename_i hw; rw [if_neg hw] at h3; exact h3
end
section
variable {Q : Exit → Act → World → Prop} {md : Region.Mode}
/-- append of a slice that reads onto a row of the call's own, as an operation. -/
theorem wp_src_bv {w : World} {o : Oper} {a : Act} {K : Act → World → Prop} (s x : Operand)
    (ho : o.op = .call { callee := .builtin .append, args := #[s, x], argTypes := #[22, 22] })
    (base : Nat) (v : Value) (xs ys : List UInt8) (A : Option Addr) (m c B : Nat) (hs : a.eval s = v) (hx : a.eval x = .slice A m c) (hown : OwnB w base v xs) (hr : IsB w B A m ys) (hbase : base ≤ w.heap.size) (hb : xs.length + m ≤ 1099511627776)
    (h : ∀ v' w', OwnB w' base v' (xs ++ ys) → Grew w v w' v' → K (a.put o.dst v') w') : o.wp Try.prog a w K Q := by
  obtain ⟨i, hi, hz, hsz, hby⟩ := info_parts info_u8
  have hm : ys.length = m := hr.1
  refine wp_append_isv w s x 22 ho base 5 i _ 1 1 Try.underlying22 hi hz hsz hby rfl (by omega) v xs.length (xs.map u8v) hs hown B A m c (ys.map u8v) hx hr.vals (u8v_one ys) (by unfold maxLen; omega) (by omega) hbase fun v' w' h1 h2 h3 => h v' w' ?_ ⟨h2, moved_mk' h3⟩
  unfold OwnB
  rw [List.map_append, List.length_append, hm]
  exact h1
/-- .. as the one step of a region that may come up. -/
theorem wpF_src (i : Nat) {L : List Oper} {o : Oper} {rest : List Oper} {fuel : Nat} {listed : Array Bool} {a : Act} {w : World} (hd : L.drop i = o :: rest) (hrd : Region.ready md L.toArray listed = [i]) (hgd : o.guard = none) (s x : Operand)
    (ho : o.op = .call { callee := .builtin .append, args := #[s, x], argTypes := #[22, 22] })
    (base : Nat) (v : Value) (xs ys : List UInt8) (A : Option Addr) (m c B : Nat) (hs : a.eval s = v) (hx : a.eval x = .slice A m c) (hown : OwnB w base v xs) (hr : IsB w B A m ys) (hbase : base ≤ w.heap.size) (hb : xs.length + m ≤ 1099511627776)
    (h : ∀ v' w', OwnB w' base v' (xs ++ ys) → Below base w w' → wpF Try.prog md L.toArray Q (Below base) fuel (listed.setIfInBounds i true) (a.put o.dst v') w') : wpF Try.prog md L.toArray Q (Below base) (fuel + 1) listed a w := by
  refine wpF_step i hd hrd fun K hK => ?_
  have hw : Region.wanted o (yielded L.toArray a.tmps) = true := by unfold Region.wanted; rw [hgd]
  rw [if_pos hw]
  refine wp_src_bv s x ho base v xs ys A m c B hs hx hown hr hbase hb fun v' w' h1 h2 => ?_
  exact hK _ _ (h2.below hown hbase) (h v' w' h1 (h2.below hown hbase))
end
/-- Worlds in which all but block g stays. -/
structure Grown (g : Nat) (w0 : World) where
  w : World
  hg : w0.grownBy w (some g)
instance grown_nonempty (g : Nat) (w0 : World) : Nonempty (Grown g w0) := ⟨⟨w0, grown_refl _ _⟩⟩
theorem grown_trans' {row : Option Nat} (a b c : World) (h : a.grownBy b row) (k : b.grownBy c row) : a.grownBy c row :=
  ⟨k.os.trans h.os, k.tape.trans h.tape, k.output.trans h.output, Nat.le_trans h.size k.size, fun i hi hne => (k.block i (Nat.lt_of_lt_of_le hi h.size) hne).trans (h.block i hi hne)⟩
theorem grown_of_below {w w' : World} {g : Nat} (hb : Below w.heap.size w w') : w.grownBy w' (some g) := ⟨hb.os, hb.tape, hb.output, hb.size, fun k hk _ => hb.block k hk⟩
/-- The relation: all but block g stays. -/
def GrownR (g : Nat) (a b : World) : Prop := a.grownBy b (some g)
section
variable {P : Program} {Q : Exit → Act → World → Prop} {md : Region.Mode}
theorem wpG_seg (g s k : Nat) {w : World} {L : List Oper} (hs : Region.noSelect L.toArray = true) (hQ : ∀ d v c a w, Q (.panic c) (Act.put a d v) w → Q (.panic c) a w) {fuel : Nat} {listed : Array Bool} {a : Act}
    (hl : Nat.ble (s + k) L.length = true) (hB : ordF md L.toArray (List.range' s k) listed = true) (h : wpQF P L.toArray (GrownR g) w (fun a' => wpF P md L.toArray Q (GrownR g) fuel (listAll (List.range' s k) listed) a' w) ((L.drop s).take k) a) :
    wpF P md L.toArray Q (GrownR g) (fuel + k) listed a w := wpF_seg (fun _ => grown_refl _ _) (fun a b c h k => grown_trans' a b c h k) s k hs hQ hl hB h
theorem wpQG_step {g : Nat} {ops : Array Oper} {w0 : World} {Q : Act → Prop} {a : Act} {o : Oper} {rest : List Oper}
    (h : ∀ K : Act → Prop, (∀ a, wpQF P ops (GrownR g) w0 Q rest a → K a) → if Region.wanted o (yielded ops a.tmps) then ∃ v, (∀ l : Grown g w0, quietIn P Eq l.w v ((execOp a.eval o).run P l.w)) ∧ K (a.put o.dst v) else K (a.put o.dst undef)) : wpQF P ops (GrownR g) w0 Q (o :: rest) a := by
  have h1 := h _ (fun _ h => h)
  unfold wpQF
  split at h1
  · obtain ⟨v, hv, hK⟩ := h1
    rw [if_pos (by assumption)]
    exact ⟨v, fun w hw => hv ⟨w, hw⟩, hK⟩
  · rw [if_neg (by assumption)]
    exact h1
end
end Go.Proofs.Ytfmmmjaficbchaa
/- A drawn region whose calls make memory, or turn one row of the call's own, beside loads of what stays (XRegionF): the relation of its worlds. No condition. -/
namespace Go.Proofs.Ytfmmmjaficbchaa
open Go.RowKit
/-- What lies below block number S stays, but for the row. -/
structure KeptR (S : Nat) (row : Option Nat) (a b : World) : Prop where
  os : b.os = a.os
  tape : b.tape = a.tape
  output : b.output = a.output
  size : a.heap.size ≤ b.heap.size
  block : ∀ k, k < S → some k ≠ row → b.heap[k]? = a.heap[k]?
theorem kept_refl (S : Nat) (row : Option Nat) (a : World) : KeptR S row a a := ⟨rfl, rfl, rfl, Nat.le_refl _, fun _ _ _ => rfl⟩
theorem kept_trans (S : Nat) (row : Option Nat) (a b c : World) (h : KeptR S row a b) (k : KeptR S row b c) : KeptR S row a c :=
  ⟨k.os.trans h.os, k.tape.trans h.tape, k.output.trans h.output, Nat.le_trans h.size k.size, fun i hi hne => (k.block i hi hne).trans (h.block i hi hne)⟩
theorem kept_of_below {S : Nat} {row : Option Nat} {B : Nat} {a b : World} (h : Below B a b) (hS : S ≤ B) : KeptR S row a b :=
  ⟨h.os, h.tape, h.output, h.size, fun k hk _ => h.block k (by omega)⟩
theorem kept_drew (S : Nat) (row : Option Nat) (a : World) : KeptR S row a a.drew := kept_of_below ((Below.refl S a).drew) (Nat.le_refl _)
theorem kept_of_grew {S : Nat} {row : Option Nat} {a b : World} {v v' : Value} (h : Grew a v b v') (hv : v.ownBlock = row ∨ ∃ k, v.ownBlock = some k ∧ S ≤ k) (hS : S ≤ a.heap.size) : KeptR S row a b :=
  ⟨h.grown.os, h.grown.tape, h.grown.output, h.grown.size, fun k hk hne => h.grown.block k (by omega) (by
    rcases hv with e | ⟨j, e, hj⟩
    · rw [e]; exact fun e' => hne e'
    · rw [e]; intro e'; cases e'; omega)⟩
theorem moved_row {S : Nat} {row : Option Nat} {a b : World} {v v' : Value} (h : Grew a v b v') (hv : v.ownBlock = row ∨ ∃ k, v.ownBlock = some k ∧ S ≤ k) (hS : S ≤ a.heap.size) : v'.ownBlock = row ∨ ∃ k, v'.ownBlock = some k ∧ S ≤ k := by
  rcases h.moved with e | ⟨k, e, hk⟩
  · rw [e]; exact hv
  · exact .inr ⟨k, e, by omega⟩
/-- Such a world. -/
structure KeptW (S : Nat) (row : Option Nat) (w0 : World) where
  w : World
  hk : KeptR S row w0 w
instance keptW_nonempty (S : Nat) (row : Option Nat) (w0 : World) : Nonempty (KeptW S row w0) := ⟨⟨w0, kept_refl _ _ _⟩⟩
theorem KeptW.blk {S : Nat} {row : Option Nat} {w0 : World} (l : KeptW S row w0) {k : Nat} {x : Option Obj} (h : w0.heap[k]? = x) (hk : k < S) (hne : some k ≠ row) : l.w.heap[k]? = x := (l.hk.block k hk hne).trans h
section
variable {P : Program} {Q : Exit → Act → World → Prop} {md : Region.Mode}
theorem wpK_seg (S : Nat) (row : Option Nat) (s k : Nat) {w : World} {L : List Oper} (hs : Region.noSelect L.toArray = true) (hQ : ∀ d v c a w, Q (.panic c) (Act.put a d v) w → Q (.panic c) a w) {fuel : Nat} {listed : Array Bool} {a : Act}
    (hl : Nat.ble (s + k) L.length = true) (hB : ordF md L.toArray (List.range' s k) listed = true) (h : wpQF P L.toArray (KeptR S row) w (fun a' => wpF P md L.toArray Q (KeptR S row) fuel (listAll (List.range' s k) listed) a' w) ((L.drop s).take k) a) :
    wpF P md L.toArray Q (KeptR S row) (fuel + k) listed a w := wpF_seg (kept_refl S row) (kept_trans S row) s k hs hQ hl hB h
theorem wpQK_step {S : Nat} {row : Option Nat} {ops : Array Oper} {w0 : World} {Q : Act → Prop} {a : Act} {o : Oper} {rest : List Oper}
    (h : ∀ K : Act → Prop, (∀ a, wpQF P ops (KeptR S row) w0 Q rest a → K a) → if Region.wanted o (yielded ops a.tmps) then ∃ v, (∀ l : KeptW S row w0, quietIn P Eq l.w v ((execOp a.eval o).run P l.w)) ∧ K (a.put o.dst v) else K (a.put o.dst undef)) : wpQF P ops (KeptR S row) w0 Q (o :: rest) a := by
  have h1 := h _ (fun _ h => h)
  unfold wpQF
  split at h1
  · obtain ⟨v, hv, hK⟩ := h1
    rw [if_pos (by assumption)]
    exact ⟨v, fun w hw => hv ⟨w, hw⟩, hK⟩
  · rw [if_neg (by assumption)]
    exact h1
theorem wp_region_K {id : Nat} {a : Act} {w : World} {l : List Oper} (S : Nat) (row : Option Nat) (hm : P.follows .mixedOrders = true)
    (h : wpF P .any l.toArray Q (KeptR S row) l.length (Array.replicate l.length false) a w.drew) : (Code.region id l.toArray true).wp P Q a w := wp_region_F (KeptR S row) hm h
end
section
variable {Q : Exit → Act → World → Prop} {md : Region.Mode}
/-- append onto the row, as the one step that may come up. -/
theorem wpK_src {S : Nat} {row : Option Nat} (i : Nat) {L : List Oper} {o : Oper} {rest : List Oper} {fuel : Nat} {listed : Array Bool} {a : Act} {w : World} (hd : L.drop i = o :: rest) (hrd : Region.ready md L.toArray listed = [i]) (hgd : o.guard = none) (s x : Operand)
    (ho : o.op = .call { callee := .builtin .append, args := #[s, x], argTypes := #[22, 22] })
    (base : Nat) (v : Value) (xs ys : List UInt8) (A : Option Addr) (m c B : Nat) (hs : a.eval s = v) (hx : a.eval x = .slice A m c) (hown : OwnB w base v xs) (hr : IsB w B A m ys) (hbase : base ≤ w.heap.size) (hb : xs.length + m ≤ 1099511627776)
    (hv : v.ownBlock = row ∨ ∃ k, v.ownBlock = some k ∧ S ≤ k) (hS : S ≤ w.heap.size)
    (h : ∀ v' w', OwnB w' base v' (xs ++ ys) → Grew w v w' v' → wpF Try.prog md L.toArray Q (KeptR S row) fuel (listed.setIfInBounds i true) (a.put o.dst v') w') : wpF Try.prog md L.toArray Q (KeptR S row) (fuel + 1) listed a w := by
  refine wpF_step i hd hrd fun K hK => ?_
  have hw : Region.wanted o (yielded L.toArray a.tmps) = true := by unfold Region.wanted; rw [hgd]
  rw [if_pos hw]
  exact wp_src_bv s x ho base v xs ys A m c B hs hx hown hr hbase hb fun v' w' h1 h2 => hK _ _ (kept_of_grew h2 hv hS) (h v' w' h1 h2)
end
end Go.Proofs.Ytfmmmjaficbchaa
/- A drawn region that stores into some blocks beside loads of others (XRegionF): the relation of its worlds. No condition. -/
namespace Go.Proofs.Ytfmmmjaficbchaa
open Go.RowKit
/-- What lies below block number S stays, but for some blocks. -/
structure KeptS (S : Nat) (P : Nat → Prop) (a b : World) : Prop where
  os : b.os = a.os
  tape : b.tape = a.tape
  output : b.output = a.output
  size : a.heap.size ≤ b.heap.size
  block : ∀ k, k < S → ¬ P k → b.heap[k]? = a.heap[k]?
theorem keptS_refl (S : Nat) (P : Nat → Prop) (a : World) : KeptS S P a a := ⟨rfl, rfl, rfl, Nat.le_refl _, fun _ _ _ => rfl⟩
theorem keptS_trans (S : Nat) (P : Nat → Prop) (a b c : World) (h : KeptS S P a b) (k : KeptS S P b c) : KeptS S P a c :=
  ⟨k.os.trans h.os, k.tape.trans h.tape, k.output.trans h.output, Nat.le_trans h.size k.size, fun i hi hne => (k.block i hi hne).trans (h.block i hi hne)⟩
theorem keptS_of_below {S : Nat} {P : Nat → Prop} {B : Nat} {a b : World} (h : Below B a b) (hS : S ≤ B) : KeptS S P a b :=
  ⟨h.os, h.tape, h.output, h.size, fun k hk _ => h.block k (by omega)⟩
theorem keptS_set {S : Nat} {P : Nat → Prop} {a b : World} (h : KeptS S P a b) {p : Addr} (hp : P p.block) (u : Value) : KeptS S P a (b.setCell p u) :=
  ⟨h.os, h.tape, h.output, by simpa [World.setCell] using h.size, fun k hk hne => (Below.heap_setCell b p u k (fun e => hne (e ▸ hp))).trans (h.block k hk hne)⟩
/-- Such a world. -/
structure KeptSW (S : Nat) (P : Nat → Prop) (w0 : World) where
  w : World
  hk : KeptS S P w0 w
instance keptSW_nonempty (S : Nat) (P : Nat → Prop) (w0 : World) : Nonempty (KeptSW S P w0) := ⟨⟨w0, keptS_refl _ _ _⟩⟩
theorem KeptSW.blk {S : Nat} {P : Nat → Prop} {w0 : World} (l : KeptSW S P w0) {k : Nat} {x : Option Obj} (h : w0.heap[k]? = x) (hk : k < S) (hne : ¬ P k) : l.w.heap[k]? = x := (l.hk.block k hk hne).trans h
/-- A cell of an old block, where nothing below S turns. -/
theorem KeptSW.cellOf {w wd : World} {a : Addr} {v : Value} (l : KeptSW w.heap.size (fun _ => False) wd) (h : w.cell? a = some v) (hb : Below w.heap.size w wd) : l.w.cell? a = some v := by
  have hlt := World.block_lt_of_cell? w a h
  refine (World.cell?_of_block ?_).trans h
  exact (l.hk.block _ hlt id).trans (hb.block _ hlt)
section
variable {P : Program} {Q : Exit → Act → World → Prop} {md : Region.Mode}
theorem wpS_seg (S : Nat) (B : Nat → Prop) (s k : Nat) {w : World} {L : List Oper} (hs : Region.noSelect L.toArray = true) (hQ : ∀ d v c a w, Q (.panic c) (Act.put a d v) w → Q (.panic c) a w) {fuel : Nat} {listed : Array Bool} {a : Act}
    (hl : Nat.ble (s + k) L.length = true) (hB : ordF md L.toArray (List.range' s k) listed = true) (h : wpQF P L.toArray (KeptS S B) w (fun a' => wpF P md L.toArray Q (KeptS S B) fuel (listAll (List.range' s k) listed) a' w) ((L.drop s).take k) a) :
    wpF P md L.toArray Q (KeptS S B) (fuel + k) listed a w := wpF_seg (keptS_refl S B) (keptS_trans S B) s k hs hQ hl hB h
theorem wpQS_step {S : Nat} {B : Nat → Prop} {ops : Array Oper} {w0 : World} {Q : Act → Prop} {a : Act} {o : Oper} {rest : List Oper}
    (h : ∀ K : Act → Prop, (∀ a, wpQF P ops (KeptS S B) w0 Q rest a → K a) → if Region.wanted o (yielded ops a.tmps) then ∃ v, (∀ l : KeptSW S B w0, quietIn P Eq l.w v ((execOp a.eval o).run P l.w)) ∧ K (a.put o.dst v) else K (a.put o.dst undef)) : wpQF P ops (KeptS S B) w0 Q (o :: rest) a := by
  have h1 := h _ (fun _ h => h)
  unfold wpQF
  split at h1
  · obtain ⟨v, hv, hK⟩ := h1
    rw [if_pos (by assumption)]
    exact ⟨v, fun w hw => hv ⟨w, hw⟩, hK⟩
  · rw [if_neg (by assumption)]
    exact h1
theorem wp_region_S {id : Nat} {a : Act} {w : World} {l : List Oper} (S : Nat) (B : Nat → Prop) (hm : P.follows .mixedOrders = true)
    (h : ∀ wd, Below w.heap.size w wd → wpF P .any l.toArray Q (KeptS S B) l.length (Array.replicate l.length false) a wd) : (Code.region id l.toArray true).wp P Q a w := wp_region_F (KeptS S B) hm (h _ (Below.refl _ _).drew)
end
theorem set3 {w : World} {g : Nat} {t : TypeId} {a0 a1 a2 : Value} (h : w.heap[g]? = some (.cells #[a0, a1, a2] t (0, 0))) (v0 v1 v2 : Value) :
    ∃ w', (((w.setCell ⟨g, 0, none⟩ v0).setCell ⟨g, 1, none⟩ v1).setCell ⟨g, 2, none⟩ v2) = w' ∧ w'.heap[g]? = some (.cells #[v0, v1, v2] t (0, 0)) ∧ w.grownBy w' (some g) := by
  refine ⟨_, rfl, ?_, ?_⟩
  · simpa using (blk_set (blk_set (blk_set h 0 v0) 1 v1) 2 v2)
  · iterate 3 refine grown_set ?_ rfl _
    exact grown_refl _ _
/-- Bytes stay when an address is written. -/
theorem isB_addr {w w' : World} {g B n : Nat} {A : Option Addr} {xs : List UInt8} {t : TypeId} {p : Bool} {q r : Int} (h : IsB w B A n xs) (hg : w.grownBy w' (some g)) (hB : B ≤ w.heap.size) (h0 : w.heap[g]? = some (.cells #[.bool p, .int .u64 q, .int .u64 r] t (0, 0))) : IsB w' B A n xs := by
  refine ⟨h.1, fun hn => ?_⟩
  obtain ⟨b, off, e, hb, hc⟩ := h.2 hn
  refine ⟨b, off, e, hb, fun i hi => ?_⟩
  have hne : b ≠ g := by
    rintro rfl
    have h1 := hc i hi
    rw [blk_cell h0 (off + i)] at h1
    rcases hk : off + i with _ | _ | _ | k <;> rw [hk] at h1 <;> simp [u8v] at h1
  rw [← hc i hi]
  exact World.cell?_of_block (hg.block b (Nat.lt_of_lt_of_le hb hB) (by simpa using hne))
theorem grown_other {w w' : World} {g k : Nat} {x : Option Obj} (h : w.grownBy w' (some g)) (hk : k < w.heap.size) (hne : k ≠ g) (hx : w.heap[k]? = x) : w'.heap[k]? = x := (h.block k hk (by simpa using hne)).trans hx
theorem below_grown {w w' : World} {g B : Nat} (h : w.grownBy w' (some g)) (hB : B ≤ w.heap.size) (hg : B ≤ g) : Below B w w' := below_of_grown h hB (by intro k hk; cases hk; exact hg)
end Go.Proofs.Ytfmmmjaficbchaa
/- Structs of many cells by one letter: read and stored as wholes; packets. No condition. -/
namespace Go.Proofs.Ytfmmmjaficbchaa
open Go.RowKit Go.ChangeShapes Go.WideShapes Go.ChangeAt Go.Deep
theorem setCells_own {g : Nat} {a : World} : ∀ (vs : List Value) (o : Nat) {w : World}, a.grownBy w (some g) → a.grownBy (w.setCells g o vs) (some g)
  | [], _, _, h => h
  | v :: vs, o, _, h => setCells_own vs (o + 1) (grown_set (p := ⟨g, o, none⟩) h rfl v)
theorem setCells_blk {g : Nat} {t : TypeId} (post : List Value) : ∀ (vs pre old : List Value) {w : World}, w.heap[g]? = some (.cells (pre ++ (old ++ post)).toArray t (0, 0)) → old.length = vs.length → (w.setCells g pre.length vs).heap[g]? = some (.cells (pre ++ (vs ++ post)).toArray t (0, 0))
  | [], pre, old, w, h, hl => by
    have : old = [] := List.eq_nil_of_length_eq_zero (by simpa using hl)
    subst this
    exact h
  | v :: vs, pre, old, w, h, hl => by
    match old, hl with
    | u :: old, hl =>
      have h1 := blk_set h pre.length v
      have e1 : ((pre ++ (u :: old ++ post)).toArray).setIfInBounds pre.length v = ((pre ++ [v]) ++ (old ++ post)).toArray := by simp
      rw [e1] at h1
      have h2 := setCells_blk post vs (pre ++ [v]) old h1 (by simpa using hl)
      rw [List.length_append] at h2
      simpa [World.setCells] using h2
/-- An array with some of its values replaced, from place o on. -/
def putA (cs : Array Value) (o : Nat) (vs : List Value) : Array Value := (cs.toList.take o ++ (vs ++ cs.toList.drop (o + vs.length))).toArray
theorem putA_size (cs : Array Value) (o : Nat) (vs : List Value) (h : o + vs.length ≤ cs.size) : (putA cs o vs).size = cs.size := by
  unfold putA
  simp
  omega
theorem stored_at {w : World} {g o : Nat} {t : TypeId} {cs : Array Value} (h : w.heap[g]? = some (.cells cs t (0, 0))) (vs : List Value) (hl : o + vs.length ≤ cs.size) : ∃ w', w.setCells g o vs = w' ∧ w'.heap[g]? = some (.cells (putA cs o vs) t (0, 0)) ∧ w.grownBy w' (some g) := by
  refine ⟨_, rfl, ?_, setCells_own _ o (grown_refl _ _)⟩
  have h1 := setCells_blk (g := g) (t := t) (cs.toList.drop (o + vs.length)) vs (cs.toList.take o) ((cs.toList.drop o).take vs.length) (w := w) (by
    have : cs.toList.take o ++ ((cs.toList.drop o).take vs.length ++ cs.toList.drop (o + vs.length)) = cs.toList := by
      rw [← List.drop_drop, List.take_append_drop, List.take_append_drop]
    rw [this]
    simpa using h) (by have := Array.length_toList (xs := cs); rw [List.length_take, List.length_drop]; omega)
  rw [List.length_take, Array.length_toList, Nat.min_eq_left (by omega)] at h1
  exact h1
theorem stored {w : World} {g : Nat} {t : TypeId} {cs : Array Value} (h : w.heap[g]? = some (.cells cs t (0, 0))) (vs : Array Value) (hl : cs.size = vs.size) : ∃ w', w.setCells g 0 vs.toList = w' ∧ w'.heap[g]? = some (.cells vs t (0, 0)) ∧ w.grownBy w' (some g) := by
  obtain ⟨w', e, h1, h2⟩ := stored_at (o := 0) h vs.toList (by simp [hl])
  refine ⟨w', e, ?_, h2⟩
  have e2 : putA cs 0 vs.toList = vs := by
    unfold putA
    rw [List.take_zero, List.nil_append, Nat.zero_add, List.drop_of_length_le (by simp [hl]), List.append_nil]
  rw [e2] at h1
  exact h1
theorem blk_range {w : World} {g : Nat} {t : TypeId} {cs : Array Value} (h : w.heap[g]? = some (.cells cs t (0, 0))) : w.rangeAt g 0 cs.toList := fun j v hv => by
  rw [Nat.zero_add, blk_cell h j]
  simpa using hv
theorem blk_there {w : World} {g o n : Nat} {t : TypeId} {cs : Array Value} (h : w.heap[g]? = some (.cells cs t (0, 0))) (hn : o + n ≤ cs.size) : w.there g o n := fun j hj => by
  rw [blk_cell h, blk_free h]
  simp [show o + j < cs.size by omega]
section
variable {P : Program} {ops : Array Oper} {rest : List Oper} {op : Oper} {a : Act} {w : World} {Q : Exit → Act → World → Prop}
/-- A whole struct is read. -/
theorem wpl_ld (hgd : op.guard = none) (ty : TypeId) (x : Operand) (ho : op.op = .load ty x) (g : Nat) (hx : a.eval x = .pointer (some ⟨g, 0, none⟩)) (cs : Array Value) {t : TypeId} (d : TypeDesc) (hc : w.heap[g]? = some (.cells cs t (0, 0)))
    (hu : P.underlying ty = some d) (hd : d.isRow = true) (hi : (P.info? ty).map (·.size) = some cs.size) (h : wpList P ops Q rest (a.put op.dst (.agg cs)) w) : wpList P ops Q (op :: rest) a w :=
  wpList_load_mid hgd ty x ho g 0 hx cs.toList d (blk_range hc) hu hd (by rw [hi, Array.length_toList]) (by simpa using h)
/-- A struct is stored, at place o of a block. -/
theorem wpl_st (hgd : op.guard = none) (ty : TypeId) (x y : Operand) (ho : op.op = .store ty x y) (g o : Nat) (hx : a.eval x = .pointer (some ⟨g, o, none⟩)) (vs : Array Value) (hy : a.eval y = .agg vs) {cs : Array Value} {t : TypeId} (hc : w.heap[g]? = some (.cells cs t (0, 0))) (hn : o + vs.size ≤ cs.size)
    (hi : (P.info? ty).map (·.size) = some vs.size) (h1 : vs.all (·.oneCell') = true)
    (h : ∀ w', w'.heap[g]? = some (.cells (putA cs o vs.toList) t (0, 0)) → w.grownBy w' (some g) → wpList P ops Q rest (a.put op.dst undef) w') : wpList P ops Q (op :: rest) a w := by
  obtain ⟨w', e, h2, h3⟩ := stored_at (o := o) hc vs.toList (by simpa using hn)
  refine wpList_store_mid hgd ty x y ho g o vs hx hy (blk_there hc hn) hi h1 ?_
  rw [e]
  exact h w' h2 h3
end
theorem putA_whole (cs vs : Array Value) (h : cs.size = vs.size) : putA cs 0 vs.toList = vs := by
  unfold putA
  rw [List.take_zero, List.nil_append, Nat.zero_add, List.drop_of_length_le (by simp [h]), List.append_nil]
namespace Pkt
theorem size_pk : (Try.prog.info? 34).map (·.size) = some 23 := by kernel_rfl
theorem size_tu : (Try.prog.info? 32).map (·.size) = some 9 := by kernel_rfl
/-- No packet. -/
def pkZ : Array Value := #[.bool false, .int .i64 0, .bool false, .int .u64 0, .int .u64 0, .bool false, .int .u64 0, .int .u64 0, .int .i64 0, .int .i64 0, .int .i64 0, .int .i64 0, .bool false, .int .i64 0, .bool false, .int .u64 0, .int .u64 0, .bool false, .int .u64 0, .int .u64 0, .int .i64 0, .int .i64 0, .int .i64 0]
theorem pkZ_size : pkZ.size = 23 := rfl
theorem pkZ_one : pkZ.all (·.oneCell') = true := all_oneCell_toArray (by
  intro v hv
  simp only [List.mem_cons, List.not_mem_nil, or_false] at hv
  rcases hv with rfl | rfl | rfl | rfl | rfl | rfl | rfl | rfl | rfl | rfl | rfl | rfl | rfl | rfl | rfl | rfl | rfl | rfl | rfl | rfl | rfl | rfl | rfl <;> rfl)
/-- A flow's cells. -/
def tuA (pr : Int) (sv : Bool) (sh sl : Int) (dv : Bool) (dh dl sp dp : Int) : Array Value := #[.int .i64 pr, .bool sv, .int .u64 sh, .int .u64 sl, .bool dv, .int .u64 dh, .int .u64 dl, .int .i64 sp, .int .i64 dp]
theorem tuA_one (pr : Int) (sv : Bool) (sh sl : Int) (dv : Bool) (dh dl sp dp : Int) : (tuA pr sv sh sl dv dh dl sp dp).all (·.oneCell') = true := all_oneCell_toArray (by
  intro v hv
  simp only [List.mem_cons, List.not_mem_nil, or_false] at hv
  rcases hv with rfl | rfl | rfl | rfl | rfl | rfl | rfl | rfl | rfl <;> rfl)
theorem all_put {cs : Array Value} {o : Nat} {vs : List Value} (h : cs.all (·.oneCell') = true) (hv : vs.all (·.oneCell') = true) : (putA cs o vs).all (·.oneCell') = true := by
  refine all_oneCell_toArray fun v hm => ?_
  have h1 := Array.all_eq_true_iff_forall_mem.1 h
  rcases List.mem_append.1 hm with hm | hm
  · exact h1 v (by simpa using List.mem_of_mem_take hm)
  · rcases List.mem_append.1 hm with hm | hm
    · exact List.all_eq_true.1 hv v hm
    · exact h1 v (by simpa using List.mem_of_mem_drop hm)
end Pkt
end Go.Proofs.Ytfmmmjaficbchaa
/- octet.Set where the number lies within: the bytes with that number at its place, in a row of the call's own. Conditions: 1 to 8 bytes within, sizes below 2^39. -/
namespace Go.Proofs.Ytfmmmjaficbchaa
open Go.RowKit Go.ChangeShapes Go.WideShapes Go.ChangeAt Go.Deep
def setB (xs : List UInt8) (p : Nat) (ys : List UInt8) : List UInt8 := xs.take p ++ (ys ++ xs.drop (p + ys.length))
theorem setB_length (xs : List UInt8) (p : Nat) (ys : List UInt8) (h : p + ys.length ≤ xs.length) : (setB xs p ys).length = xs.length := by simp [setB]; omega
theorem OwnB.row {w : World} {base : Nat} {A : Option Addr} {n c : Nat} {xs : List UInt8} (h : OwnB w base (.slice A n c) xs) (hn : 0 < n) :
    ∃ g cur, A = some ⟨g, 0, none⟩ ∧ base ≤ g ∧ w.heap[g]? = some (.cells (List.toArray cur) 5 (0, 0)) ∧ cur.length = c ∧ cur.take n = xs.map u8v ∧ n ≤ c ∧ c ≤ maxLen ∧ xs.length = n := by
  have hl := h.reads.1
  rcases h.2 with ⟨e, _⟩ | ⟨g, cap, cur, e, hg, hh, hn', hm, hs, ht⟩
  · cases e
    omega
  · cases e
    exact ⟨g, cur.toList, rfl, hg, by simpa using hh, by simpa using hs, by simpa [hl] using ht, hn', hm, hl⟩
theorem own_of_row {w : World} {base g n c : Nat} {cur : List Value} {xs : List UInt8} (hg : base ≤ g) (hh : w.heap[g]? = some (.cells cur.toArray 5 (0, 0))) (hc : cur.length = c) (ht : cur.take n = xs.map u8v) (hn : n ≤ c) (hm : c ≤ maxLen) (hl : xs.length = n) :
    OwnB w base (.slice (some ⟨g, 0, none⟩) n c) xs := by
  subst hl
  exact ⟨by simp, .inr ⟨g, c, cur.toArray, rfl, hg, hh, hn, hm, by simpa using hc, by simpa using ht⟩⟩
theorem splice_take (cur : List Value) (xs ys : List UInt8) (n p : Nat) (ht : cur.take n = xs.map u8v) (_hn : n ≤ cur.length) (hl : xs.length = n) (h : p + ys.length ≤ n) : (splice cur p (ys.map u8v)).take n = (setB xs p ys).map u8v := by
  have hc : cur = xs.map u8v ++ cur.drop n := by rw [← ht, List.take_append_drop]
  have e1 : cur.take p = (xs.take p).map u8v := by
    rw [hc, List.take_append_of_le_length (by rw [List.length_map]; omega), List.map_take]
  have e2 : cur.drop (p + ys.length) = (xs.drop (p + ys.length)).map u8v ++ cur.drop n := by
    conv => lhs; rw [hc]
    rw [List.drop_append_of_le_length (by rw [List.length_map]; omega), List.map_drop]
  unfold splice setB
  rw [List.length_map, e1, e2, List.map_append, List.map_append, ← List.append_assoc, ← List.append_assoc, ← List.append_assoc]
  rw [List.take_append_of_le_length (by simp; omega), List.take_of_length_le (by simp; omega)]
set_option maxHeartbeats 2000000 in
theorem set_in (A : Option Addr) (n c : Nat) (xs : List UInt8) (p N k : Nat) (pi Ni ki : Int) (hpi : pi = (p : Int)) (hNi : Ni = (N : Int)) (hki : ki = (k : Int)) (w : World) (hx : IsB w w.heap.size A n xs) (hn : n ≤ 549755813888) (hp : p + k ≤ n) (hk : k ≤ 8) (hk0 : 0 < k) (hN : N < 18446744073709551616) :
    Calls Try.prog 33 #[.slice A n c, .int .i64 pi, .int .u64 Ni, .int .i64 ki] w fun e w' => ∃ v, e = .returned v ∧ OwnB w' w.heap.size v (setB xs p (beB N k)) ∧ Below w.heap.size w w' := by
  subst hpi hNi hki
  go_enter Try.func33, Try.ntmps33
  go_wp2_with (at_builtin; refine wpl_src_bv rfl _ _ rfl w.heap.size (.slice none 0 0) [] xs A n c w.heap.size rfl rfl (OwnB.nil _ _) hx (Nat.le_refl _) ?_ ?_)
  · simp; omega
  intro v1 w1 hown1 hg1
  have hb1 := hg1.belowNil
  obtain ⟨A1, c1, rfl, hc1, hm1, hi1⟩ := hown1.form
  rw [hx.1] at hown1 hc1 hi1 ⊢
  obtain ⟨g, cur, rfl, hgb, hh, hcl, htk, _, _, hxl⟩ := hown1.row (by omega)
  have i1 : (p : Int) ≤ (n : Int) := by omega
  have i2 : (p : Int) ≤ (n : Int) - (k : Int) := by omega
  have i3 : (k : Int) ≤ 8 := by omega
  replace hown1 := hide hown1
  replace hg1 := hide hg1
  replace hb1 := hide hb1
  replace hi1 := hide hi1
  replace hh := hide hh
  replace hcl := hide hcl
  replace htk := hide htk
  replace hxl := hide hxl
  replace hx := hide hx
  have hne : ¬ c1 = p := by omega
  go_wp2_with fail
  refine wp_region_L (by kernel_rfl) ?_
  refine wpE_seg 0 5 (fuel := 2) (by kernel_rfl) (fun d _ _ _ _ h => by cases d <;> exact h) (by kernel_rfl) (by kernel_rfl) ?_
  simp only [List.drop_zero, List.take_succ_cons, List.take_zero]
  repeat (refine wpQE_step (fun K hK => ?_); go_simp; (try go_bits); refine hK _ ?_; clear hK K)
  refine wpQE_nil ?_
  refine wpE_step 5 (fuel := 1) rfl (by kernel_rfl) (fun l K hK => ?_)
  go_simp
  go_at_call 58
  refine (put_lit _ _ N k rfl rfl l.w.heap.size _ [] _ (OwnB.nil _ _) (Nat.le_refl _) hN hk (by simp)).mono ?_
  rintro e w3 ⟨v2, rfl, hown2, hg2⟩
  have hb2 := hg2.belowNil
  refine hK _ _ hb2 ?_
  clear hK K
  obtain ⟨A2, c2, rfl, hc2, hm2, hi2⟩ := hown2.form
  simp only [List.nil_append, beB_length] at hi2 hc2 ⊢
  refine wpE_end (by kernel_rfl) (fun l2 => ?_)
  refine wpT_step 6 rfl (by kernel_rfl) (fun K hK => ?_)
  have hi4 := hi2.later l2
  obtain ⟨b2, off2, rfl, hbl2, hcs2⟩ := hi4.vals.2 (by omega)
  have hz1 := hg1.out.grown.size
  have hgl : g < w1.heap.size := (Array.getElem?_eq_some_iff.1 hh.out).1
  have hh4 : l2.w.heap[g]? = some (.cells cur.toArray 5 (0, 0)) := blk_below l2.hb (by have := l.hb.size; have := hb2.size; omega) (blk_below hb2 (by have := l.hb.size; omega) (blk_below l.hb hgl hh.out))
  have hb4 : Below w.heap.size w l2.w := ((hb1.out.trans (l.hb.mono hz1)).trans (hb2.mono (by have := l.hb.size; omega))).trans (l2.hb.mono (by have := l.hb.size; have := hb2.size; omega))
  refine step_copy_splice rfl _ _ _ _ rfl 5 Try.underlying22 (by kernel_rfl) _ _ _ _ _ _ rfl rfl g p cur 5 hh4 ((beB N k).map u8v) ?_ ?_ ?_ (u8v_one _) w.heap.size w hb4 hgb ?_
  · rw [List.length_map, beB_length]
    exact (Nat.min_eq_left (by omega)).symm
  · intro _
    refine ⟨rfl, _, rfl, fun j v hj => ?_⟩
    obtain ⟨hj', rfl⟩ := List.getElem?_eq_some_iff.1 hj
    rw [show Addr.add ⟨b2, off2, none⟩ j = (⟨b2, off2 + j, none⟩ : Addr) by unfold Addr.add; split <;> simp_all]
    exact hcs2 j hj'
  · rw [List.length_map, beB_length, hcl.out]; omega
  intro w5 hh5 hb5
  refine hK _ _ ?_
  clear hK K
  refine wpT_done (by kernel_rfl) ?_ 0
  replace hcs2 := hide hcs2
  replace hh4 := hide hh4
  replace hb4 := hide hb4
  replace hb5 := hide hb5
  go_wp2_with fail
  go_ret
  refine ⟨_, rfl, own_of_row hgb hh5.out ?_ (splice_take cur xs (beB N k) n p htk.out (by rw [hcl.out]; exact hc1) hxl.out (by rw [beB_length]; exact hp)) hc1 hm1 (by rw [setB_length _ _ _ (by rw [beB_length, hxl.out]; exact hp), hxl.out]), hb5.out⟩
  rw [length_splice _ _ _ (by rw [List.length_map, beB_length, hcl.out]; omega), hcl.out]
end Go.Proofs.Ytfmmmjaficbchaa
/- A check behind a change of a word: plain numbers, and sum.Turn by contract. Conditions: numbers of 16 bits. -/
namespace Go.Proofs.Ytfmmmjaficbchaa
open Go.RowKit Go.ChangeShapes Go.WideShapes Go.ChangeAt Go.Deep
namespace Sum
/-- A check behind a change of a word. -/
def turnN (c f t : Nat) : Nat := 65535 - ones ((65535 - c) + (65535 - f) + t)
theorem turnN_le (c f t : Nat) : turnN c f t ≤ 65535 := by unfold turnN; omega
theorem ones_mod (n : Nat) : ones n % 65535 = n % 65535 := by unfold ones; split <;> omega
theorem turnN_mod (c f t : Nat) (hc : c ≤ 65535) (hf : f ≤ 65535) : (turnN c f t + t) % 65535 = (c + f) % 65535 := by
  have h1 := ones_mod ((65535 - c) + (65535 - f) + t)
  have h2 := ones_le ((65535 - c) + (65535 - f) + t)
  unfold turnN
  omega
theorem ones_full {a : Nat} : ones a = 65535 ↔ a % 65535 = 0 ∧ a ≠ 0 := by unfold ones; split <;> omega
theorem tot_be2 (v : Nat) (h : v < 65536) (l : List UInt8) : tot false (beB v 2 ++ l) = v + tot false l := by
  simp only [beB, List.nil_append, List.cons_append, tot, Bool.not_false, Bool.not_true]
  have e1 : (UInt8.ofNat v).toNat = v % 256 := UInt8.toNat_ofNat'
  have e2 : (UInt8.ofNat (v / 256)).toNat = v / 256 % 256 := UInt8.toNat_ofNat'
  simp [e1, e2]
  omega
theorem drop_two (xs : List UInt8) (p : Nat) (h : p + 2 ≤ xs.length) : xs.drop p = xs.getD p 0 :: xs.getD (p + 1) 0 :: xs.drop (p + 2) := by
  rw [List.drop_eq_getElem_cons (by omega), List.drop_eq_getElem_cons (by omega)]
  simp [List.getD, show p < xs.length by omega, show p + 1 < xs.length by omega]
theorem tot_setB2 (xs : List UInt8) (p v : Nat) (hp : p % 2 = 0) (hl : p + 2 ≤ xs.length) (hv : v < 65536) : tot false (setB xs p (beB v 2)) + beN xs p 2 = tot false xs + v := by
  have e1 : xs = xs.take p ++ xs.drop p := (List.take_append_drop p xs).symm
  have ht : (xs.take p).length = p := by rw [List.length_take]; omega
  have h1 : tot false xs = tot false (xs.take p) + tot false (xs.drop p) := by
    conv => lhs; rw [e1]
    rw [tot_append, ht, decide_eq_false (by omega)]
    rfl
  have h2 : tot false (setB xs p (beB v 2)) = tot false (xs.take p) + tot false (beB v 2 ++ xs.drop (p + 2)) := by
    unfold setB
    rw [tot_append, ht, decide_eq_false (by omega), beB_length]
    rfl
  rw [h1, h2, tot_be2 v hv, drop_two xs p hl]
  simp only [tot, Bool.not_false, Bool.not_true, beN, if_true, Bool.false_eq_true, if_false]
  simp only [Nat.add_zero]
  omega
theorem turn_any (c f t : Nat) (w : World) (hc : c ≤ 65535) (hf : f ≤ 65535) (ht : t ≤ 65535) :
    Calls Try.prog 80 #[.int .u16 (c : Int), .int .u16 (f : Int), .int .u16 (t : Int)] w fun e w' => e = .returned (.int .u16 (turnN c f t : Nat)) ∧ w = w' := by
  obtain ⟨c', hc'⟩ : ∃ c', 65535 - c = c' := ⟨_, rfl⟩
  obtain ⟨f', hf'⟩ : ∃ f', 65535 - f = f' := ⟨_, rfl⟩
  have q1 : bits .xor .u16 IntKind.u16.max (c : Int) = (c' : Int) := by rw [u16_flip c hc, hc']
  have q2 : bits .xor .u16 IntKind.u16.max (f : Int) = (f' : Int) := by rw [u16_flip f hf, hf']
  have b1 : c' ≤ 65535 := by omega
  have b2 : f' ≤ 65535 := by omega
  have hs : IntKind.u16.signed = false := rfl
  have hT : turnN c f t = 65535 - ones (c' + f' + t) := by unfold turnN; rw [hc', hf']
  have q4 := ones_le (c' + f' + t)
  have hfo := fun w : World => fold_any (c' + f' + t) w (by omega)
  have e1 : ((c' + f' + t : Nat) : Int) = (c' : Int) + f' + t := by omega
  rw [e1] at hfo
  clear e1
  replace hc' := hide hc'
  replace hf' := hide hf'
  replace hT := hide hT
  replace hfo := hide hfo
  go_enter Try.func80, Try.ntmps80
  go_wp2_with fail
  refine (hfo.out _).mono ?_
  rintro e w' ⟨rfl, rfl⟩
  have q3 := u16_flip _ q4
  go_wp2_with fail
  go_ret
  exact ⟨ret_int (by rw [hT.out]), rfl⟩
end Sum
end Go.Proofs.Ytfmmmjaficbchaa
/- slices.Clone at bytes: a row of the call's own with the same bytes. And words on bytes as strings. Conditions: at most 2^40 bytes. -/
namespace Go.Proofs.Ytfmmmjaficbchaa
open Go.RowKit Go.ChangeShapes Go.WideShapes Go.ChangeAt Go.Deep
def str (xs : List UInt8) : ByteArray := ⟨xs.toArray⟩
theorem IsB.str {w : World} {B n : Nat} {A : Option Addr} {xs : List UInt8} (h : IsB w B A n xs) (c : Nat) : (convert 22 9 (.slice A n c)).run Try.prog w = .ok (.string (str xs)) w := by
  rcases A with _ | ad
  · have h0 : n = 0 := by
      rcases Nat.eq_zero_or_pos n with h0 | h0
      · exact h0
      · obtain ⟨_, _, e, _⟩ := h.2 h0
        cases e
    have hx : xs = [] := List.eq_nil_of_length_eq_zero (by rw [h.1, h0])
    subst hx
    exact run_convert_bytes_nil w 22 5 Try.underlying22 Try.underlying5 n c 9 Try.underlying9
  · have hn := h.1
    subst hn
    refine run_convert_bytes_back w 22 9 5 ad c xs Try.underlying22 Try.underlying5 Try.underlying9 fun j hj => ?_
    obtain ⟨b, off, e, _, hc⟩ := h.2 (by omega)
    cases e
    rw [show (Addr.add ⟨b, off, none⟩ j : Addr) = ⟨b, off + j, none⟩ by unfold Addr.add; split <;> simp_all]
    exact hc j hj
theorem str_inj {xs ys : List UInt8} (h : str xs = str ys) : xs = ys := by
  have h1 : (str xs).data.toList = (str ys).data.toList := by rw [h]
  simpa [str] using h1
set_option maxHeartbeats 1000000 in
theorem clone_any (A : Option Addr) (n c : Nat) (xs : List UInt8) (w : World) (hx : IsB w w.heap.size A n xs) (hn : n ≤ 1099511627776) :
    Calls Try.prog 83 #[.slice A n c] w fun e w' => ∃ v, e = .returned v ∧ OwnB w' w.heap.size v xs ∧ Below w.heap.size w w' := by
  have hnil := fun W => Lib.run_eql_slice_nil (P := Try.prog) W 22 5 A n c 0 0 Try.underlying22
  rcases A with _ | ad
  · have h0 : n = 0 := by
      rcases Nat.eq_zero_or_pos n with h0 | h0
      · exact h0
      · obtain ⟨_, _, e, _⟩ := hx.2 h0
        cases e
    obtain rfl : xs = [] := List.eq_nil_of_length_eq_zero (by rw [hx.1, h0])
    subst h0
    simp only [Option.isNone_none] at hnil
    clear hx
    go_enter Try.func83, Try.ntmps83
    go_wp2
    go_ret
    exact ⟨_, rfl, OwnB.nil _ _, Below.refl _ _⟩
  · go_enter Try.func83, Try.ntmps83
    go_wp2_with (at_builtin; refine wpl_src_b rfl (.tmp 5) (.tmp 6) rfl w.heap.size _ [] xs _ _ _ (w.heap.size + 1) rfl rfl ?_ ?_ ?_ ?_ ?_)
    · exact OwnB.empty w w.heap.size (Nat.le_refl _)
    · exact (hx.on ((Below.refl _ _).alloc (Nat.le_refl _) _)).more (by simp)
    · simp
    · simp; omega
    intro v' w' hown hb _ _
    go_wp2
    go_ret
    exact ⟨_, rfl, hown, ((Below.refl _ _).alloc (Nat.le_refl _) _).trans hb⟩
end Go.Proofs.Ytfmmmjaficbchaa
