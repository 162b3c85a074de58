/- Words that every text of this seat's proofs uses: hiding a fact, a world with more in it, a region that draws its order and whose callees only make memory, a struct argument opened to its cells. No condition. -/
import Derived.Below
import Derived.BigQuiet
import Derived.ChangeOld
import Derived.Deep.LoopGhost
import Derived.Deep.QuietTactic
import Derived.Deep.Slices
import Derived.OpenShut
import Derived.OrdersHeld
import Derived.Outline
import Derived.ProofKit
import Derived.ShutString
import Derived.WalkKit
import Derived.WalkLawsBesides
namespace Go.Proofs.YtdneeablghlemaaGreatDoor
open Go.RowKit Go.ChangeShapes Go.WideShapes Go.ChangeAt Go.Deep

theorem hide {p : Prop} (h : p) : Hid p := h

/-! ### A world that is w0 with more in it -/
structure Later (w0 : World) where
  w : World
  hb : Below w0.heap.size w0 w
instance later_nonempty (w0 : World) : Nonempty (Later w0) := ⟨⟨w0, Below.refl _ _⟩⟩
theorem later_drew (w0 : World) : ∃ l : Later w0, { w0 with drawn := w0.drawn + 1 } = l.w := ⟨⟨w0.drew, (Below.refl _ _).drew⟩, rfl⟩
theorem Later.step {w0 w' : World} (l : Later w0) (h : Below l.w.heap.size l.w w') : ∃ l' : Later w0, w' = l'.w := ⟨⟨w', l.hb.trans (h.mono l.hb.size)⟩, rfl⟩
theorem Later.same {w0 w' : World} (l : Later w0) (h : l.w = w') : ∃ l' : Later w0, w' = l'.w := ⟨l, h.symm⟩
theorem Later.cell {w0 : World} (l : Later w0) {a : Addr} {v : Value} (h : w0.cell? a = some v) : l.w.cell? a = some v := (l.hb.cell (World.block_lt_of_cell? w0 a h)).trans h
theorem Later.size {w0 : World} (l : Later w0) : w0.heap.size ≤ l.w.heap.size := l.hb.size
theorem wp_region_later {P : Program} {id : Nat} {Q : Exit → Act → World → Prop} {a : Act} {w : World} {l : List Oper} (hm : P.follows .mixedOrders = true) (hB : Region.lexB .any l.toArray = true)
    (h : wpQuiet P l.toArray (fun w' => ∃ x : Later w, w' = x.w) (fun a' => ∀ x : Later w, Q .normal a' x.w) l a) : (Code.region id l.toArray true).wp P Q a w := by
  refine wp_region_quiet (C := fun w' => ∃ x : Later w, w' = x.w) hm hB (later_drew w) ?_
  have e : (fun a' => ∀ w', (∃ x : Later w, w' = x.w) → Q .normal a' w') = (fun a' => ∀ x : Later w, Q .normal a' x.w) := by
    funext a'
    exact propext ⟨fun h x => h _ ⟨x, rfl⟩, fun h w' ⟨x, hx⟩ => hx ▸ h x⟩
  rw [e]
  simpa using h

/-! ### A block that is known whole -/
theorem blk_cell {w : World} {g : Nat} {t : TypeId} {cs : Array Value} (h : w.heap[g]? = some (.cells cs t (0, 0))) (i : Nat) : w.cell? ⟨g, i, none⟩ = cs[i]? := cell_of_row w g i cs t (0, 0) h
theorem blk_free {w : World} {g : Nat} {t : TypeId} {cs : Array Value} (h : w.heap[g]? = some (.cells cs t (0, 0))) (i : Nat) : w.frozen? ⟨g, i, none⟩ = false := by simp [World.frozen?, h]
theorem blk_set {w : World} {g : Nat} {t : TypeId} {cs : Array Value} (h : w.heap[g]? = some (.cells cs t (0, 0))) (i : Nat) (u : Value) : (w.setCell ⟨g, i, none⟩ u).heap[g]? = some (.cells (cs.setIfInBounds i u) t (0, 0)) := by
  simp [World.setCell, Array.getElem?_modify, h]
theorem blk_new (w : World) (t : TypeId) (cs : Array Value) : (w.alloc (.cells cs t)).heap[w.heap.size]? = some (.cells cs t (0, 0)) := heap_alloc_new w _
theorem blk_old {w : World} {g : Nat} {x : Option Obj} (o : Obj) (hg : g < w.heap.size) (h : w.heap[g]? = x) : (w.alloc o).heap[g]? = x := (Below.heap_alloc w o g hg).trans h
theorem blk_below {w w' : World} {B g : Nat} {x : Option Obj} (hb : Below B w w') (hg : g < B) (h : w.heap[g]? = x) : w'.heap[g]? = x := (hb.block g hg).trans h
theorem below_mk {B : Nat} {a b c : World} (h : Below B a b) (hB : B ≤ b.heap.size) (k : Below b.heap.size b c) : Below B a c := h.trans (k.mono hB)

/-! ### A struct argument opened to its cells, whatever its fields' fields -/
def leafsOf (P : Program) : Nat → TypeId → Nat → Option (List (TypeId × Nat))
  | 0, _, _ => none
  | n + 1, t, off =>
    match P.underlying t with
    | some (.struct fs) => (fs.toList.mapM fun f => if f.offset + P.cellsOf f.type ≤ P.cellsOf t then leafsOf P n f.type (off + f.offset) else none).map List.flatten
    | some (.array k e) => ((List.range k).mapM fun i => if i * P.cellsOf e + P.cellsOf e ≤ P.cellsOf t then leafsOf P n e (off + i * P.cellsOf e) else none).map List.flatten
    | _ => if P.cellsOf t = 1 then some [(t, off)] else none

section
variable {H : Type} {enc : TypeId × Value → H} {P : Program} {w : World} {base : Nat} {spare : Nat → Bool} {held : Bool}

theorem cut_cut {α : Type} (CS : List α) (off size o c : Nat) (h : o + c ≤ size) : (((CS.drop off).take size).drop o).take c = (CS.drop (off + o)).take c := by
  rw [List.drop_take, List.take_take, List.drop_drop, Nat.min_eq_left (by omega)]

theorem trod_leafs (CS : List Value) : ∀ (n : Nat) (t : TypeId) (off : Nat) (ls : List (TypeId × Nat)) (fuel : Nat) (x : DataW H × List MemPlace), leafsOf P n t off = some ls →
    DataW.trod enc P w base spare held fuel t ((CS.drop off).take (P.cellsOf t)) = some x →
    ∀ u i, (u, i) ∈ ls → ∃ m y, DataW.trod enc P w base spare held m u ((CS.drop i).take 1) = some y
  | 0, _, _, _, _, _, h, _ => by simp [leafsOf] at h
  | n + 1, t, off, ls, fuel, x, h, ht => by
    intro u i hmem
    unfold leafsOf at h
    split at h
    · rename_i fs hu
      obtain ⟨ll, hll, rfl⟩ := Option.map_eq_some_iff.1 h
      obtain ⟨xs, n', _, _, _, hxl, hf⟩ := DataW.trod_struct hu ht
      obtain ⟨l, hl, hil⟩ := List.mem_flatten.1 hmem
      obtain ⟨j, hj, rfl⟩ := List.getElem_of_mem hl
      have hlen : ll.length = fs.size := (mapM_some_length hll).trans (by simp)
      have hjf : j < fs.size := by omega
      have hfj : fs[j]? = some fs[j] := Array.getElem?_eq_getElem hjf
      have hg := mapM_some_get hll j fs[j] (by simp)
      rw [List.getElem?_eq_getElem hj] at hg
      split at hg
      · rename_i hle
        have h1 := hf j fs[j] hfj
        rw [List.getElem?_eq_getElem (by omega), cut_cut _ _ _ _ _ hle] at h1
        exact trod_leafs CS n _ _ _ _ _ hg h1 u i hil
      · cases hg
    · rename_i k e hu
      obtain ⟨ll, hll, rfl⟩ := Option.map_eq_some_iff.1 h
      obtain ⟨l, hl, hil⟩ := List.mem_flatten.1 hmem
      obtain ⟨j, hj, rfl⟩ := List.getElem_of_mem hl
      have hlen : ll.length = k := (mapM_some_length hll).trans (by simp)
      have hg := mapM_some_get hll j j (by rw [List.getElem?_range (by omega)])
      rw [List.getElem?_eq_getElem hj] at hg
      split at hg
      · rename_i hle
        obtain ⟨xs, n', _, _, _, hxl, hf⟩ := DataW.trod_array hu ht
        have h1 := hf j (by omega)
        rw [List.getElem?_eq_getElem (by omega), cut_cut _ _ _ _ _ hle] at h1
        exact trod_leafs CS n _ _ _ _ _ hg h1 u i hil
      · cases hg
    · split at h
      · rename_i hc
        cases h
        simp only [List.mem_singleton, Prod.mk.injEq] at hmem
        obtain ⟨rfl, rfl⟩ := hmem
        rw [hc] at ht
        exact ⟨_, _, ht⟩
      · cases h

/-- A struct value opened: its cells, and each leaf cell's own reading. -/
theorem open_leafs {r : Reach} {b0 : Nat} {t : TypeId} {fs : Array Field} {v : Value} {d : DataW H} {p : List MemPlace} {n : Nat} {ls : List (TypeId × Nat)} (hs : P.underlying t = some (.struct fs)) (hl : leafsOf P n t 0 = some ls)
    (hv : Value.okWide P w r b0 t v) (h : DataW.Trod enc P w base spare held t v d p) :
    ∃ cs : List Value, v = .agg cs.toArray ∧ cs.length = P.cellsOf t ∧ ∀ u i, (u, i) ∈ ls → ∃ m y, DataW.trod enc P w base spare held m u ((cs.drop i).take 1) = some y := by
  obtain ⟨cs, rfl, hsz⟩ := okWide_struct hs hv
  obtain ⟨fuel, hf⟩ := h
  refine ⟨cs.toList, by simp, by simpa using hsz, fun u i hm => ?_⟩
  refine trod_leafs cs.toList n t 0 ls fuel (d, p) hl ?_ u i hm
  · rw [List.drop_zero, ← hsz, ← Array.length_toList, List.take_length]
    exact hf
end
end Go.Proofs.YtdneeablghlemaaGreatDoor
/- Words on slices of bytes that are read, and plain numbers made of bytes. No condition. -/
namespace Go.Proofs.YtdneeablghlemaaGreatDoor
open Go.RowKit Go.ChangeShapes Go.WideShapes Go.ChangeAt Go.Deep

def u8v (x : UInt8) : Value := .int .u8 (x.toNat : Int)
/-- The slice '.slice A n c' reads as the bytes xs, below block B. -/
def IsB (w : World) (B : Nat) (A : Option Addr) (n : Nat) (xs : List UInt8) : Prop :=
  xs.length = n ∧ (0 < n → ∃ b off, A = some ⟨b, off, none⟩ ∧ b < B ∧ ∀ i (h : i < xs.length), w.cell? ⟨b, off + i, none⟩ = some (u8v xs[i]))

section
variable {w w' : World} {B B' n : Nat} {A : Option Addr} {xs : List UInt8}
theorem IsB.nil (w : World) (B : Nat) (A : Option Addr) : IsB w B A 0 [] := ⟨rfl, fun h => absurd h (by omega)⟩
theorem IsB.keep (h : IsB w B A n xs) (hk : ∀ p : Addr, p.block < B → w'.cell? p = w.cell? p) : IsB w' B A n xs :=
  ⟨h.1, fun hn => by
    obtain ⟨b, off, e, hb, hc⟩ := h.2 hn
    exact ⟨b, off, e, hb, fun i hi => (hk _ hb).trans (hc i hi)⟩⟩
theorem IsB.more (h : IsB w B A n xs) (hB : B ≤ B') : IsB w B' A n xs :=
  ⟨h.1, fun hn => by
    obtain ⟨b, off, e, hb, hc⟩ := h.2 hn
    exact ⟨b, off, e, by omega, hc⟩⟩
theorem IsB.below (h : IsB w B A n xs) (hb : Below B w w') : IsB w' B A n xs := h.keep fun _ hp => hb.cell hp
theorem IsB.later (h : IsB w w.heap.size A n xs) (l : Later w) : IsB l.w l.w.heap.size A n xs := (h.below l.hb).more l.hb.size
theorem IsB.on (h : IsB w w.heap.size A n xs) (hb : Below w.heap.size w w') : IsB w' w'.heap.size A n xs := (h.below hb).more hb.size
theorem IsB.alloc (h : IsB w w.heap.size A n xs) (o : Obj) : IsB (w.alloc o) (w.alloc o).heap.size A n xs := h.on ((Below.refl _ _).alloc (Nat.le_refl _) o)
theorem IsB.ptr (h : IsB w B A n xs) (hn : 0 < n) : ∃ b off, A = some ⟨b, off, none⟩ ∧ b < B ∧ ∀ i (h : i < xs.length), w.cell? ⟨b, off + i, none⟩ = some (u8v xs[i]) := h.2 hn
/-- One byte of it, as a number; the pointer is known by the way. -/
theorem IsB.byte (h : IsB w B A n xs) {i : Nat} (hi : i < n) : ∃ b off v, A = some ⟨b, off, none⟩ ∧ b < B ∧ (xs.getD i 0).toNat = v ∧ v ≤ 255 ∧ w.cell? ⟨b, off + i, none⟩ = some (.int .u8 (v : Nat)) := by
  obtain ⟨b, off, e, hb, hc⟩ := h.2 (by omega)
  have hl : i < xs.length := by rw [h.1]; exact hi
  have hg : xs.getD i 0 = xs[i] := by simp [List.getD, hl]
  exact ⟨b, off, _, e, hb, rfl, by have := (xs.getD i 0).toNat_lt; omega, by rw [hc i hl, hg]; rfl⟩
/-- .. once the pointer is known. -/
theorem IsB.byteAt {b off : Nat} (h : IsB w B (some ⟨b, off, none⟩) n xs) {i : Nat} (hi : i < n) : ∃ v, (xs.getD i 0).toNat = v ∧ v ≤ 255 ∧ w.cell? ⟨b, off + i, none⟩ = some (.int .u8 (v : Nat)) := by
  obtain ⟨b', off', v, e, _, h1, h2, h3⟩ := h.byte hi
  cases e
  exact ⟨v, h1, h2, h3⟩
/-- A cut of it. -/
theorem IsB.cut (h : IsB w B A n xs) {k m cap : Nat} (hk : k ≤ m) (hm : m ≤ n) (hc : n ≤ cap) :
    IsB w B (if cap = k then A else A.map (·.add k)) (m - k) ((xs.take m).drop k) := by
  refine ⟨by rw [List.length_drop, List.length_take, h.1]; omega, fun hn => ?_⟩
  obtain ⟨b, off, rfl, hb, hcell⟩ := h.2 (by omega)
  rw [if_neg (by omega)]
  refine ⟨b, off + k, ?_, hb, fun i hi => ?_⟩
  · simp only [Option.map_some, Addr.add]
    split
    · rename_i h0; subst h0; rfl
    · rfl
  · have hi' : i < m - k := by
      have := hi; rw [List.length_drop, List.length_take, h.1] at this; omega
    rw [show off + k + i = off + (k + i) by omega, hcell (k + i) (by rw [h.1]; omega)]
    simp [List.getElem_drop, List.getElem_take]
theorem IsB.cut' (h : IsB w B A n xs) {k m cap : Nat} {A' : Option Addr} (hA : A' = if cap = k then A else A.map (·.add k)) (hk : k ≤ m) (hm : m ≤ n) (hc : n ≤ cap) : IsB w B A' (m - k) ((xs.take m).drop k) := hA ▸ h.cut hk hm hc
/-- A cut from place k on, the pointer known, as the walk spells it. -/
theorem IsB.dropAt {b off : Nat} (h : IsB w B (some ⟨b, off, none⟩) n xs) {k cap : Nat} {A' : Option Addr} (hA : (if cap = k then some (⟨b, off, none⟩ : Addr) else some ⟨b, off + k, none⟩) = A') (hk : k ≤ n) (hc : n ≤ cap) : IsB w B A' (n - k) (xs.drop k) := by
  subst hA
  rcases Nat.eq_zero_or_pos k with h0 | h0
  · subst h0
    simpa using h
  · have h1 := h.cut (k := k) (m := n) (cap := cap) hk (Nat.le_refl _) hc
    rw [List.take_of_length_le (by rw [h.1]; exact Nat.le_refl _)] at h1
    have e : (some (⟨b, off, none⟩ : Addr)).map (·.add k) = some ⟨b, off + k, none⟩ := by
      simp only [Option.map_some, Addr.add]
      rw [if_neg (by omega)]
    rw [e] at h1
    exact h1
theorem IsB.take (h : IsB w B A n xs) {m : Nat} (hm : m ≤ n) : IsB w B A m (xs.take m) := by
  refine ⟨by rw [List.length_take, h.1]; omega, fun hn => ?_⟩
  obtain ⟨b, off, rfl, hb, hcell⟩ := h.2 (by omega)
  exact ⟨b, off, rfl, hb, fun i hi => by
    rw [hcell i (by rw [List.length_take] at hi; omega)]
    simp [List.getElem_take]⟩
end

theorem u8_lt (x : UInt8) : (x.toNat : Int) ≤ 255 := by have := x.toNat_lt; omega

/-- The number of k bytes from place 'at_' on; 0 for a byte that there is not. -/
def beN (xs : List UInt8) (at_ : Nat) : Nat → Nat
  | 0 => 0
  | k + 1 => beN xs at_ k * 256 + (xs.getD (at_ + k) 0).toNat
theorem beN_lt (xs : List UInt8) (at_ : Nat) : ∀ k, beN xs at_ k < 256 ^ k
  | 0 => by simp [beN]
  | k + 1 => by
    have h := beN_lt xs at_ k
    have hb := (xs.getD (at_ + k) 0).toNat_lt
    simp only [beN, Nat.pow_succ]
    omega
theorem or_byte (a b : Nat) (hb : b < 256) : a * 256 ||| b = a * 256 + b := by
  have := Nat.two_pow_add_eq_or_of_lt (i := 8) (b := b) (by omega) a
  rw [show (2 : Nat) ^ 8 = 256 by rfl] at this
  rw [Nat.mul_comm]; omega
/-! ### Bits of numbers that are not below 0 -/
theorem u64_or_byte (a v : Nat) (h : a < 72057594037927936) (hv : v ≤ 255) : bits .or .u64 ((a : Int) * 256) (v : Int) = ((a * 256 + v : Nat) : Int) := by
  rw [← or_byte a v (by omega)]
  exact u64_or_nat (a * 256) v (by omega) (by omega)
theorem u32_and_low (s : Nat) (h : s < 4294967296) : bits .and .u32 (s : Int) 65535 = ((s % 65536 : Nat) : Int) := by
  rw [show (65535 : Int) = ((65535 : Nat) : Int) by rfl, u32_and_nat s 65535 h (by omega), show s &&& 65535 = s % 65536 from Nat.and_two_pow_sub_one_eq_mod s 16]
theorem u16_flip (x : Nat) (h : x ≤ 65535) : bits .xor .u16 IntKind.u16.max (x : Int) = ((65535 - x : Nat) : Int) := by
  rw [show IntKind.u16.max = ((65535 : Nat) : Int) by decide, u16_xor_nat 65535 x (by omega) (by omega)]
  have h1 : (BitVec.allOnes 16 ^^^ BitVec.ofNat 16 x).toNat = 65535 - x := by
    rw [BitVec.allOnes_xor, BitVec.toNat_not, BitVec.toNat_ofNat, Nat.mod_eq_of_lt (by omega)]
  rw [BitVec.toNat_xor, BitVec.toNat_ofNat, Nat.mod_eq_of_lt (by omega : x < 2 ^ 16)] at h1
  exact congrArg Int.ofNat h1
theorem beq_nat (a b : Nat) : ((a : Int) == (b : Int)) = decide (a = b) := by
  by_cases h : a = b
  · simp [h]
  · have h' : ¬ (a : Int) = b := by omega
    simp [h, h']
theorem ret_bool {a b : Bool} (h : a = b) : Ending.returned (.bool a) = .returned (.bool b) := by rw [h]
theorem wf_le {k : IntKind} {n : Int} (h : (Lit.int k n).wf = true) : k.min ≤ n ∧ n ≤ k.max := by simpa [Lit.wf] using h
theorem u8_wf {n : Int} (h : (Lit.int .u8 n).wf = true) : 0 ≤ n ∧ n ≤ 255 := by
  have := wf_le h
  simpa [IntKind.min, IntKind.max, IntKind.signed, IntKind.bits] using this
theorem u32_wf {n : Int} (h : (Lit.int .u32 n).wf = true) : 0 ≤ n ∧ n ≤ 4294967295 := by
  have := wf_le h
  simpa [IntKind.min, IntKind.max, IntKind.signed, IntKind.bits] using this
theorem u64_wf {n : Int} (h : (Lit.int .u64 n).wf = true) : 0 ≤ n ∧ n ≤ 18446744073709551615 := by
  have := wf_le h
  simpa [IntKind.min, IntKind.max, IntKind.signed, IntKind.bits] using this
theorem i64_wf {n : Int} (h : (Lit.int .i64 n).wf = true) : -9223372036854775808 ≤ n ∧ n ≤ 9223372036854775807 := by
  have := wf_le h
  simpa [IntKind.min, IntKind.max, IntKind.signed, IntKind.bits] using this
theorem ret_u64 {a b : Int} (h : a = b) : Ending.returned (.int .u64 a) = .returned (.int .u64 b) := by rw [h]
theorem ret_int {k : IntKind} {a b : Int} (h : a = b) : Ending.returned (.int k a) = .returned (.int k b) := by rw [h]
end Go.Proofs.YtdneeablghlemaaGreatDoor
/- A region that draws its order, where some operations (calls among them) have one value in every later world and are taken first, and the others are carried out in whatever order. The worlds go on by a relation R that is reflexive and transitive. No condition. -/
namespace Go.Proofs.YtdneeablghlemaaGreatDoor
open Go.RowKit

section
variable {P : Program} {ops : Array Oper} {Q : Exit → Act → World → Prop} {md : Region.Mode} {R : World → World → Prop}

/-- Does operation j wait for operation i, at last? -/
def reach (md : Region.Mode) (ops : Array Oper) : Nat → Nat → Nat → Bool
  | 0, _, _ => false
  | n + 1, j, i => match ops[j]? with
    | some o => o.after.any fun e => Region.binds md e && (e.on == i || reach md ops n e.on i)
    | none => false
/-- Every operation that has not come up waits for every one that has: what is left is a tail. -/
def tailB (md : Region.Mode) (ops : Array Oper) (listed : Array Bool) : Bool :=
  (List.range ops.size).all fun j => listed.getD j true || (List.range ops.size).all fun i => !(listed.getD i false) || reach md ops ops.size j i
/-- What has come up has come up behind all that it waits for. -/
def closedB (md : Region.Mode) (ops : Array Oper) (listed : Array Bool) : Bool :=
  (List.range ops.size).all fun k => !(listed.getD k false) || match ops[k]? with
    | some o => o.after.all fun e => !(Region.binds md e) || listed.getD e.on false
    | none => true

/-- Whatever order is picked from here on, from every world that is R-later than w; each operation goes on by R; the tail is free of R. -/
def wpE (P : Program) (md : Region.Mode) (ops : Array Oper) (Q : Exit → Act → World → Prop) (R : World → World → Prop) : Nat → Array Bool → Act → World → Prop
  | 0, listed, a, w => Region.ready md ops listed = [] ∧ ∀ w', R w w' → Q .normal a w'
  | fuel + 1, listed, a, w =>
      (tailB md ops listed = true ∧ ∀ w', R w w' → wpAny P md ops Q (fuel + 1) listed a w') ∨
      ∀ w', R w w' → (Region.ready md ops listed = [] → Q .normal a w') ∧
      ∀ i ∈ Region.ready md ops listed, wpOp P ops Q i (fun a' w'' => R w' w'' ∧ wpE P md ops Q R fuel (listed.setIfInBounds i true) a' w'') a w'

theorem wpE_later (ht : ∀ a b c, R a b → R b c → R a c) {fuel : Nat} {listed : Array Bool} {a : Act} {w w1 : World} (h : wpE P md ops Q R fuel listed a w) (hw : R w w1) : wpE P md ops Q R fuel listed a w1 := by
  cases fuel with
  | zero => exact ⟨h.1, fun w' hw' => h.2 w' (ht _ _ _ hw hw')⟩
  | succ n => exact h.imp (fun h => ⟨h.1, fun w' hw' => h.2 w' (ht _ _ _ hw hw')⟩) fun h w' hw' => h w' (ht _ _ _ hw hw')

theorem wpAny_of_E (hr : ∀ w, R w w) : ∀ (fuel : Nat) (listed : Array Bool) (a : Act) (w : World), wpE P md ops Q R fuel listed a w → wpAny P md ops Q fuel listed a w
  | 0, _, _, _, h => ⟨h.1, h.2 _ (hr _)⟩
  | _ + 1, _, _, _, .inl h => h.2 _ (hr _)
  | fuel + 1, _, _, _, .inr h => ⟨(h _ (hr _)).1, fun i hi => wpOp_mono (fun a' w' h' => wpAny_of_E hr fuel _ a' w' h'.2) ((h _ (hr _)).2 i hi)⟩

/-- The operation, carried out in w, yields v (a call: hands v back) and goes on by R. -/
def quietIn (P : Program) (R : World → World → Prop) (w : World) (v : Value) : Result Next → Prop
  | .ok (.value u) w' => u = v ∧ R w w'
  | .ok .skip w' => v = undef ∧ R w w'
  | .ok (.enter f args) w' => w' = w ∧ Calls P f args w (fun e w'' => e = .returned v ∧ R w w'')
  | _ => False

def YieldsE (P : Program) (ops : Array Oper) (R : World → World → Prop) (w0 : World) (o : Oper) (v : Value) (a : Act) : Prop :=
  (Region.wanted o (yielded ops a.tmps) = true ∧ ∀ w, R w0 w → quietIn P R w v ((execOp a.eval o).run P w)) ∨
  (Region.wanted o (yielded ops a.tmps) = false ∧ v = undef)

theorem YieldsE.later (ht : ∀ a b c, R a b → R b c → R a c) {w0 w1 : World} {o : Oper} {v : Value} {a : Act} (hy : YieldsE P ops R w0 o v a) (hw : R w0 w1) : YieldsE P ops R w1 o v a :=
  hy.imp (fun ⟨h1, h2⟩ => ⟨h1, fun w h => h2 w (ht _ _ _ hw h)⟩) id
theorem YieldsE.of_same {w0 : World} {o : Oper} {v : Value} {a a' : Act} (hy : YieldsE P ops R w0 o v a) (he : execOp a'.eval o = execOp a.eval o)
    (hw : Region.wanted o (yielded ops a'.tmps) = Region.wanted o (yielded ops a.tmps)) : YieldsE P ops R w0 o v a' := by
  unfold YieldsE at *
  rw [he, hw]
  exact hy
theorem YieldsE.wpOp (hr : ∀ w, R w w) {w0 : World} {i : Nat} {o : Oper} {v : Value} {a : Act} (hi : ops[i]? = some o) (hy : YieldsE P ops R w0 o v a) {K : Act → World → Prop} {w : World} (hw0 : R w0 w)
    (h : ∀ w', R w w' → K (a.put o.dst v) w') : wpOp P ops Q i K a w := by
  unfold Go.wpOp
  simp only [hi]
  rcases hy with ⟨hw, hv⟩ | ⟨hw, rfl⟩
  · simp only [hw, if_true]
    refine .inl ?_
    have h3 := hv w hw0
    unfold Oper.wp
    generalize (execOp a.eval o).run P w = r at *
    cases r with
    | ok n w' =>
      cases n <;> simp only [quietIn] at h3 <;> simp only [Oper.upon]
      case value u => obtain ⟨rfl, h4⟩ := h3; exact h _ h4
      case skip => obtain ⟨rfl, h4⟩ := h3; exact h _ h4
      case enter f args => obtain ⟨rfl, h4⟩ := h3; exact h4.mono fun e w'' ⟨he, hw''⟩ => by subst he; exact h _ hw''
    | halt x w' => simp only [quietIn] at h3
  · simp only [hw, Bool.false_eq_true, if_false]; exact h _ (hr _)

theorem wpOp_putE {w0 : World} {j : Nat} {oi oj : Oper} {v : Value} (hj : ops[j]? = some oj) (hap : oi.apart ops oj = true)
    (hsi : ∀ cs b, oi.op ≠ .select cs b) (hsj : ∀ cs b, oj.op ≠ .select cs b)
    (hQ : ∀ c a w, Q (.panic c) (a.put oi.dst v) w → Q (.panic c) a w) {K : Act → World → Prop} {a : Act} {w : World}
    (hy : YieldsE P ops R w0 oi v a) (h : wpOp P ops Q j K (a.put oi.dst v) w) :
    wpOp P ops Q j (fun a' w' => YieldsE P ops R w0 oi v a' ∧ K (a'.put oi.dst v) w') a w := by
  obtain ⟨h1, h2, h3⟩ := Oper.apart_spec hap
  have keep : ∀ (a : Act), YieldsE P ops R w0 oi v a → ∀ u, YieldsE P ops R w0 oi v (a.put oj.dst u) := fun a hy u =>
    hy.of_same (execOp_put oi hsi a oj.dst u h3) (wanted_put oi a oj.dst u h3)
  have keepD : ∀ d, YieldsE P ops R w0 oi v { a with defers := d :: a.defers } := fun d => hy.of_same rfl rfl
  unfold wpOp at *
  simp only [hj] at *
  rw [wanted_put oj a oi.dst v h1] at h
  split
  · rename_i hw
    simp only [hw, if_true] at h
    rcases h with h | ⟨hasks, hlets⟩
    case inr => exact .inr ⟨by unfold Oper.asks at *; rw [execOp_put oj hsj a oi.dst v h1] at hasks; exact hasks, hlets⟩
    refine .inl ?_
    unfold Oper.wp at *
    rw [execOp_put oj hsj a oi.dst v h1] at h
    generalize (execOp a.eval oj).run P w = r at *
    cases r with
    | ok n w' =>
      cases n <;> simp only [Oper.upon] at h ⊢
      case value u => exact ⟨keep a hy u, by rw [← Act.put_comm a v u h2]; exact h⟩
      case skip => exact ⟨keep a hy _, by rw [← Act.put_comm a v undef h2]; exact h⟩
      case defer d =>
        refine ⟨keep _ (keepD d) _, ?_⟩
        rw [← Act.put_comm _ v undef h2, ← Act.put_defers]
        exact h
      case enter f args =>
        refine Calls.mono h fun e w'' he => ?_
        cases e with
        | returned u => exact ⟨keep a hy u, by rw [← Act.put_comm a v u h2]; exact he⟩
        | panicked c => exact hQ _ _ _ he
        | outgrown => exact he
      case row row args => exact Rows.mono h fun u w'' he => ⟨keep a hy u, by rw [← Act.put_comm a v u h2]; exact he⟩
    | halt x w' =>
      cases x <;> simp only [Oper.upon] at h ⊢
      case panic u => exact hQ _ _ _ h
  · rename_i hw
    simp only [hw] at h
    exact ⟨keep a hy _, by rw [← Act.put_comm a v undef h2]; exact h⟩

def Closed (md : Region.Mode) (ops : Array Oper) (listed : Array Bool) : Prop :=
  ∀ k o, ops[k]? = some o → listed.getD k false = true → ∀ e ∈ o.after, Region.binds md e = true → listed.getD e.on false = true
theorem closed_of {listed : Array Bool} (h : closedB md ops listed = true) : Closed md ops listed := by
  intro k o ho hk e he hb
  have hks : k < ops.size := (Array.getElem?_eq_some_iff.1 ho).1
  unfold closedB at h
  have h1 := List.all_eq_true.1 h k (List.mem_range.2 hks)
  rw [hk, ho] at h1
  simp only [Bool.not_true, Bool.false_or] at h1
  obtain ⟨m, hm, rfl⟩ := Array.getElem_of_mem he
  have h2 := Array.all_eq_true.1 h1 m hm
  rw [hb] at h2
  simpa using h2
theorem closed_set {listed : Array Bool} {j : Nat} (h : Closed md ops listed) (hj : j ∈ Region.ready md ops listed) : Closed md ops (listed.setIfInBounds j true) := by
  intro k o ho hk e he hb
  obtain ⟨_, oj, hoj, hall⟩ := mem_ready.1 hj
  by_cases hjk : j = k
  · subst hjk
    rw [hoj] at ho
    cases ho
    exact getD_set_true (hall e he hb)
  · rw [getD_set_ne false hjk] at hk
    exact getD_set_true (h k o ho hk e he hb)
theorem reach_listed {listed : Array Bool} (hc : Closed md ops listed) {i : Nat} (hs : listed.getD i false = false) : ∀ (n j : Nat), (∀ o, ops[j]? = some o → ∀ e ∈ o.after, Region.binds md e = true → listed.getD e.on false = true) → reach md ops n j i = false
  | 0, _, _ => rfl
  | n + 1, j, h => by
    unfold reach
    cases ho : ops[j]? with
    | none => rfl
    | some o =>
      simp only
      rw [Bool.eq_false_iff]
      intro hany
      obtain ⟨m, hm, he⟩ := Array.any_eq_true.1 hany
      simp only [Bool.and_eq_true, Bool.or_eq_true, beq_iff_eq] at he
      have h1 := h o ho _ (Array.getElem_mem hm) he.1
      rcases he.2 with h2 | h2
      · rw [h2, hs] at h1
        cases h1
      · have h3 : reach md ops n (o.after[m]).on i = false := reach_listed hc hs n _ fun o' ho' e' he' hb' => hc _ o' ho' h1 e' he' hb'
        rw [h2] at h3
        cases h3
theorem tail_waits {i j : Nat} {listed : Array Bool} (hc : Closed md ops listed) (h : tailB md ops (listed.setIfInBounds i true) = true) (hi : i ∈ Region.ready md ops listed) (hj : j ∈ Region.ready md ops listed) : j = i := by
  refine Classical.byContradiction fun hne => ?_
  obtain ⟨hjun, oj, hoj, hall⟩ := mem_ready.1 hj
  have hiun := (mem_ready.1 hi).1
  have hjs : j < ops.size := (Array.getElem?_eq_some_iff.1 hoj).1
  obtain ⟨_, oi, hoi, _⟩ := mem_ready.1 hi
  have his : i < ops.size := (Array.getElem?_eq_some_iff.1 hoi).1
  have hil : i < listed.size := by
    rcases Nat.lt_or_ge i listed.size with h' | h'
    · exact h'
    · simp [Array.getElem?_eq_none h'] at hiun
  unfold tailB at h
  have h1 := List.all_eq_true.1 h j (List.mem_range.2 hjs)
  rw [getD_set_ne true (Ne.symm hne), hjun, Bool.false_or] at h1
  have h2 := List.all_eq_true.1 h1 i (List.mem_range.2 his)
  have hset : (listed.setIfInBounds i true).getD i false = true := by simp [hil]
  rw [hset, Bool.not_true, Bool.false_or] at h2
  have hs : listed.getD i false = false := by simp [hil] at hiun ⊢; exact hiun
  rw [reach_listed hc hs ops.size j (fun o ho e he hb => by rw [hoj] at ho; cases ho; exact hall e he hb)] at h2
  cases h2

theorem wpE_first (hr : ∀ w, R w w) (ht : ∀ a b c, R a b → R b c → R a c) {i : Nat} {oi : Oper} {v : Value} (hi : ops[i]? = some oi) (hsel : ∀ (j : Nat) (o : Oper) cs b, ops[j]? = some o → o.op ≠ .select cs b)
    (hQ : ∀ c a w, Q (.panic c) (a.put oi.dst v) w → Q (.panic c) a w) :
    ∀ (fuel : Nat) (listed : Array Bool) (a : Act) (w : World), Closed md ops listed →
      (∀ j oj, ops[j]? = some oj → j ≠ i → listed.getD j true = false → (∀ e ∈ oj.after, Region.binds md e = true → e.on ≠ i) → oi.apart ops oj = true) →
      i ∈ Region.ready md ops listed → YieldsE P ops R w oi v a →
      wpE P md ops Q R fuel (listed.setIfInBounds i true) (a.put oi.dst v) w → wpE P md ops Q R (fuel + 1) listed a w := by
  intro fuel
  induction fuel with
  | zero =>
    intro listed a w _ _ hrd hy H
    refine .inr fun w1 hw1 => ⟨fun h => (by rw [h] at hrd; cases hrd), fun j hj => ?_⟩
    by_cases hji : j = i
    · subst hji; exact hy.wpOp hr hi hw1 fun w' hw' => ⟨hw', wpE_later ht H (ht _ _ _ hw1 hw')⟩
    · have := ready_mono hj hji
      rw [H.1] at this
      cases this
  | succ fuel ih =>
    intro listed a w hcl hfree hrd hy H
    refine .inr fun w1 hw1 => ⟨fun h => (by rw [h] at hrd; cases hrd), fun j hj => ?_⟩
    by_cases hji : j = i
    · subst hji; exact hy.wpOp hr hi hw1 fun w' hw' => ⟨hw', wpE_later ht H (ht _ _ _ hw1 hw')⟩
    · rcases H with H | H
      · exact absurd (tail_waits hcl H.1 hrd hj) hji
      have h1 := (H w1 hw1).2 j (ready_mono hj hji)
      obtain ⟨hjun, oj, hoj, hall⟩ := mem_ready.1 hj
      have hnot : ∀ e ∈ oj.after, Region.binds md e = true → e.on ≠ i := fun e he hb heq => by
        have h1 := hall e he hb
        have h0 := (mem_ready.1 hrd).1
        rw [heq] at h1
        rcases Nat.lt_or_ge i listed.size with h' | h'
        · simp [h'] at h0 h1; rw [h0] at h1; cases h1
        · simp [Array.getElem?_eq_none h'] at h1
      have h2 := wpOp_putE hoj (hfree j oj hoj hji hjun hnot) (fun cs b => hsel i oi cs b hi) (fun cs b => hsel j oj cs b hoj) hQ (hy.later ht hw1) h1
      have hfree' : ∀ k ok, ops[k]? = some ok → k ≠ i → (listed.setIfInBounds j true).getD k true = false →
          (∀ e ∈ ok.after, Region.binds md e = true → e.on ≠ i) → oi.apart ops ok = true := fun k ok hk hki hun hno => by
        refine hfree k ok hk hki ?_ hno
        by_cases hjk : j = k
        · subst hjk; exact hjun
        · rw [getD_set_ne true hjk] at hun; exact hun
      refine wpOp_mono (fun a' w' h3 => ⟨h3.2.1, ih (listed.setIfInBounds j true) a' w' (closed_set hcl hj) hfree' (ready_mono hrd (Ne.symm hji)) (h3.1.later ht h3.2.1) ?_⟩) h2
      rw [Array.setIfInBounds_comm _ _ hji]
      exact h3.2.2

/-- Take number 'i' first. -/
theorem wpE_take (hr : ∀ w, R w w) (ht : ∀ a b c, R a b → R b c → R a c) (i : Nat) {oi : Oper} {v : Value} {fuel : Nat} {listed : Array Bool} {a : Act} {w : World} (hi : ops[i]? = some oi)
    (hcl : closedB md ops listed = true) (hs : Region.noSelect ops = true) (hf : Region.free md ops listed i = true) (hrd : (Region.ready md ops listed).contains i = true)
    (hQ : ∀ c a w, Q (.panic c) (a.put oi.dst v) w → Q (.panic c) a w) (hy : YieldsE P ops R w oi v a)
    (h : wpE P md ops Q R fuel (listed.setIfInBounds i true) (a.put oi.dst v) w) : wpE P md ops Q R (fuel + 1) listed a w :=
  wpE_first hr ht hi (Region.noSelect_spec hs) hQ fuel listed a w (closed_of hcl) (Region.free_spec hi hf) (by simpa using hrd) hy h

/-- Only one may come up. -/
theorem wpE_one (i : Nat) {oi : Oper} {fuel : Nat} {listed : Array Bool} {a : Act} {w : World} (hi : ops[i]? = some oi) (hrd : Region.ready md ops listed = [i])
    (h : ∀ w', R w w' → ∀ K : Act → World → Prop, (∀ a'' w'', R w' w'' → wpE P md ops Q R fuel (listed.setIfInBounds i true) a'' w'' → K a'' w'') →
      if Region.wanted oi (yielded ops a.tmps) then oi.wp P a w' K Q else K (a.put oi.dst undef) w') : wpE P md ops Q R (fuel + 1) listed a w := by
  refine .inr fun w' hw' => ?_
  refine ⟨fun h0 => (by rw [h0] at hrd; cases hrd), fun j hj => ?_⟩
  rw [hrd] at hj
  obtain rfl : j = i := by simpa using hj
  have h1 := h w' hw' (fun a' w'' => R w' w'' ∧ wpE P md ops Q R fuel (listed.setIfInBounds j true) a' w'') (fun _ _ h1 h2 => ⟨h1, h2⟩)
  unfold wpOp
  simp only [hi]
  split
  · rename_i hw; rw [if_pos hw] at h1; exact .inl h1
  · rename_i hw; rw [if_neg hw] at h1; exact h1

/-- Two may come up. -/
theorem wpE_two (i j : Nat) {oi oj : Oper} {fuel : Nat} {listed : Array Bool} {a : Act} {w : World} (hi : ops[i]? = some oi) (hj : ops[j]? = some oj) (hrd : Region.ready md ops listed = [i, j])
    (h1 : ∀ w', R w w' → ∀ K : Act → World → Prop, (∀ a'' w'', R w' w'' → wpE P md ops Q R fuel (listed.setIfInBounds i true) a'' w'' → K a'' w'') →
      if Region.wanted oi (yielded ops a.tmps) then oi.wp P a w' K Q else K (a.put oi.dst undef) w')
    (h2 : ∀ w', R w w' → ∀ K : Act → World → Prop, (∀ a'' w'', R w' w'' → wpE P md ops Q R fuel (listed.setIfInBounds j true) a'' w'' → K a'' w'') →
      if Region.wanted oj (yielded ops a.tmps) then oj.wp P a w' K Q else K (a.put oj.dst undef) w') : wpE P md ops Q R (fuel + 1) listed a w := by
  refine .inr fun w' hw' => ?_
  refine ⟨fun h0 => (by rw [h0] at hrd; cases hrd), fun k hk => ?_⟩
  rw [hrd] at hk
  have hk' : k = i ∨ k = j := by simpa using hk
  rcases hk' with rfl | rfl
  · have h3 := h1 w' hw' (fun a' w'' => R w' w'' ∧ wpE P md ops Q R fuel (listed.setIfInBounds k true) a' w'') (fun _ _ h1 h2 => ⟨h1, h2⟩)
    unfold wpOp
    simp only [hi]
    split
    · rename_i hw; rw [if_pos hw] at h3; exact .inl h3
    · rename_i hw; rw [if_neg hw] at h3; exact h3
  · have h3 := h2 w' hw' (fun a' w'' => R w' w'' ∧ wpE P md ops Q R fuel (listed.setIfInBounds k true) a' w'') (fun _ _ h1 h2 => ⟨h1, h2⟩)
    unfold wpOp
    simp only [hj]
    split
    · rename_i hw; rw [if_pos hw] at h3; exact .inl h3
    · rename_i hw; rw [if_neg hw] at h3; exact h3

/-- What is left is a tail: it goes on from a world that is R-later, in the order of its own. -/
theorem wpE_tail {fuel : Nat} {listed : Array Bool} {a : Act} {w : World} (htl : tailB md ops listed = true) (h : ∀ w', R w w' → wpAny P md ops Q (fuel + 1) listed a w') : wpE P md ops Q R (fuel + 1) listed a w := .inl ⟨htl, h⟩
theorem wpT_one (i : Nat) {oi : Oper} {fuel : Nat} {listed : Array Bool} {a : Act} {w : World} (hi : ops[i]? = some oi) (hrd : Region.ready md ops listed = [i])
    (h : ∀ K : Act → World → Prop, (∀ a'' w'', wpAny P md ops Q fuel (listed.setIfInBounds i true) a'' w'' → K a'' w'') →
      if Region.wanted oi (yielded ops a.tmps) then oi.wp P a w K Q else K (a.put oi.dst undef) w) : wpAny P md ops Q (fuel + 1) listed a w := by
  refine ⟨fun h0 => (by rw [h0] at hrd; cases hrd), fun j hj => ?_⟩
  rw [hrd] at hj
  obtain rfl : j = i := by simpa using hj
  have h1 := h _ (fun _ _ h2 => h2)
  unfold wpOp
  simp only [hi]
  split
  · rename_i hw; rw [if_pos hw] at h1; exact .inl h1
  · rename_i hw; rw [if_neg hw] at h1; exact h1
theorem wpT_done {listed : Array Bool} {a : Act} {w : World} (hrd : Region.ready md ops listed = []) (h : Q .normal a w) : ∀ fuel, wpAny P md ops Q fuel listed a w
  | 0 => ⟨hrd, h⟩
  | _ + 1 => ⟨fun _ => h, fun i hi => by rw [hrd] at hi; cases hi⟩

/-- All have come up. -/
theorem wpE_done {listed : Array Bool} {a : Act} {w : World} (hrd : Region.ready md ops listed = []) (h : ∀ w', R w w' → Q .normal a w') : ∀ fuel, wpE P md ops Q R fuel listed a w
  | 0 => ⟨hrd, h⟩
  | _ + 1 => .inr fun w' hw' => ⟨fun _ => h w' hw', fun i hi => by rw [hrd] at hi; cases hi⟩

/-- The region, begun. -/
theorem wp_region_E {id : Nat} {a : Act} {w : World} {l : List Oper} (R : World → World → Prop) (hr : ∀ w, R w w) (_hd : R w w.drew) (hm : P.follows .mixedOrders = true)
    (h : wpE P .any l.toArray Q R l.length (Array.replicate l.length false) a w.drew) : (Code.region id l.toArray true).wp P Q a w := by
  refine wp_region_any hm ?_
  have := wpAny_of_E hr l.length (Array.replicate l.length false) a w.drew h
  simpa using this
end
/-- A region's worlds where nothing that was there ahead of it turns. -/
def LaterThan (a b : World) : Prop := Below a.heap.size a b
theorem lt_refl (w : World) : LaterThan w w := Below.refl _ _
attribute [go_sem] quietIn lt_refl
theorem lt_trans (a b c : World) (h : LaterThan a b) (k : LaterThan b c) : LaterThan a c := Below.trans h (Below.mono k h.size)
theorem lt_drew (w : World) : LaterThan w w.drew := (Below.refl _ _).drew

section
variable {P : Program} {ops : Array Oper} {Q : Exit → Act → World → Prop} {md : Region.Mode}
/-- Some operations, each with one value in every later world, one behind the other. -/
def wpQE (P : Program) (ops : Array Oper) (w0 : World) (Q : Act → Prop) : List Oper → Act → Prop
  | [], a => Q a
  | o :: rest, a => if Region.wanted o (yielded ops a.tmps) then ∃ v, (∀ l : Later w0, quietIn P LaterThan l.w v ((execOp a.eval o).run P l.w)) ∧ wpQE P ops w0 Q rest (a.put o.dst v) else wpQE P ops w0 Q rest (a.put o.dst undef)
theorem wpQE_nil {w0 : World} {Q : Act → Prop} {a : Act} (h : Q a) : wpQE P ops w0 Q [] a := h
theorem wpQE_step {w0 : World} {Q : Act → Prop} {a : Act} {o : Oper} {rest : List Oper}
    (h : ∀ K : Act → Prop, (∀ a, wpQE P ops w0 Q rest a → K a) → if Region.wanted o (yielded ops a.tmps) then ∃ v, (∀ l : Later w0, quietIn P LaterThan l.w v ((execOp a.eval o).run P l.w)) ∧ K (a.put o.dst v) else K (a.put o.dst undef)) : wpQE P ops w0 Q (o :: rest) a :=
  h _ (fun _ h => h)
/-- May the operations 'ord' be taken first, in this order? -/
def ordB (md : Region.Mode) (ops : Array Oper) : List Nat → Array Bool → Bool
  | [], _ => true
  | i :: ord, listed => closedB md ops listed && (Region.ready md ops listed).contains i && Region.free md ops listed i && ordB md ops ord (listed.setIfInBounds i true)
def listAll : List Nat → Array Bool → Array Bool
  | [], listed => listed
  | i :: ord, listed => listAll ord (listed.setIfInBounds i true)
theorem wpE_ord {w : World} (hs : Region.noSelect ops = true) (hQ : ∀ d v c a w, Q (.panic c) (Act.put a d v) w → Q (.panic c) a w) {fuel : Nat} {Q' : Act → Prop} : ∀ (ord : List Nat) (l : List Oper) (listed : Array Bool) (a : Act),
    ord.map (fun i => ops[i]?) = l.map some → ordB md ops ord listed = true → wpQE P ops w Q' l a → (∀ a', Q' a' → wpE P md ops Q LaterThan fuel (listAll ord listed) a' w) →
    wpE P md ops Q LaterThan (fuel + ord.length) listed a w
  | [], [], _, a, _, _, h, hq => hq a h
  | [], _ :: _, _, _, h, _, _, _ => by simp at h
  | _ :: _, [], _, _, h, _, _, _ => by simp at h
  | i :: ord, o :: l, listed, a, hl, hB, h, hq => by
    simp only [List.map_cons, List.cons.injEq] at hl
    simp only [ordB, Bool.and_eq_true] at hB
    obtain ⟨⟨⟨hcl, hr⟩, hf⟩, hB'⟩ := hB
    have step : ∀ v, YieldsE P ops LaterThan w o v a → wpQE P ops w Q' l (a.put o.dst v) → wpE P md ops Q LaterThan (fuel + (ord.length + 1)) listed a w := fun v hy hK =>
      wpE_take lt_refl lt_trans i hl.1 hcl hs hf hr (hQ _ _) hy (wpE_ord hs hQ ord l _ _ hl.2 hB' hK hq)
    unfold wpQE at h
    split at h
    · rename_i hw
      obtain ⟨v, hv, hK⟩ := h
      exact step v (.inl ⟨hw, fun w' hw' => hv ⟨w', hw'⟩⟩) hK
    · rename_i hw
      exact step undef (.inr ⟨by simpa using hw, rfl⟩) h

theorem seg_map (L : List Oper) : ∀ (k s : Nat), s + k ≤ L.length → (List.range' s k).map (fun i => L.toArray[i]?) = ((L.drop s).take k).map some
  | 0, _, _ => by simp
  | k + 1, s, h => by
    have hs : s < L.length := by omega
    rw [List.range'_succ, List.map_cons, seg_map L k (s + 1) (by omega), List.drop_eq_getElem_cons hs, List.take_succ_cons, List.map_cons]
    simp
/-- The operations s .. s + k - 1 of the text are taken first. -/
theorem wpE_seg {w : World} {L : List Oper} (s k : Nat) (hs : Region.noSelect L.toArray = true) (hQ : ∀ d v c a w, Q (.panic c) (Act.put a d v) w → Q (.panic c) a w) {fuel : Nat} {listed : Array Bool} {a : Act}
    (hl : Nat.ble (s + k) L.length = true) (hB : ordB md L.toArray (List.range' s k) listed = true) (h : wpQE P L.toArray w (fun a' => wpE P md L.toArray Q LaterThan fuel (listAll (List.range' s k) listed) a' w) ((L.drop s).take k) a) :
    wpE P md L.toArray Q LaterThan (fuel + k) listed a w := by
  have h1 := wpE_ord hs hQ (fuel := fuel) (List.range' s k) ((L.drop s).take k) listed a (seg_map L k s (Nat.le_of_ble_eq_true hl)) hB h (fun _ h => h)
  rwa [List.length_range'] at h1
theorem at_drop {L : List Oper} {i : Nat} {o : Oper} {rest : List Oper} (hd : L.drop i = o :: rest) : L.toArray[i]? = some o := by
  have h : (L.drop i)[0]? = some o := by rw [hd]; rfl
  rw [List.getElem?_drop] at h
  simpa using h
/-- Number i alone may come up: it is carried out in a later world w', as in a walk. -/
theorem wpE_step (i : Nat) {L : List Oper} {o : Oper} {rest : List Oper} {fuel : Nat} {listed : Array Bool} {a : Act} {w : World} (hd : L.drop i = o :: rest) (hrd : Region.ready md L.toArray listed = [i])
    (h : ∀ l : Later w, ∀ K : Act → World → Prop, (∀ a'' w'', LaterThan l.w w'' → wpE P md L.toArray Q LaterThan fuel (listed.setIfInBounds i true) a'' w'' → K a'' w'') →
      if Region.wanted o (yielded L.toArray a.tmps) then o.wp P a l.w K Q else K (a.put o.dst undef) l.w) : wpE P md L.toArray Q LaterThan (fuel + 1) listed a w :=
  wpE_one i (at_drop hd) hrd fun w' hw' K hK => h ⟨w', hw'⟩ K hK
theorem wpT_step (i : Nat) {L : List Oper} {o : Oper} {rest : List Oper} {fuel : Nat} {listed : Array Bool} {a : Act} {w : World} (hd : L.drop i = o :: rest) (hrd : Region.ready md L.toArray listed = [i])
    (h : ∀ K : Act → World → Prop, (∀ a'' w'', wpAny P md L.toArray Q fuel (listed.setIfInBounds i true) a'' w'' → K a'' w'') →
      if Region.wanted o (yielded L.toArray a.tmps) then o.wp P a w K Q else K (a.put o.dst undef) w) : wpAny P md L.toArray Q (fuel + 1) listed a w :=
  wpT_one i (at_drop hd) hrd h
theorem wpE_end {fuel : Nat} {listed : Array Bool} {a : Act} {w : World} (htl : tailB md ops listed = true) (h : ∀ l : Later w, wpAny P md ops Q (fuel + 1) listed a l.w) : wpE P md ops Q LaterThan (fuel + 1) listed a w :=
  wpE_tail htl fun w' hw' => h ⟨w', hw'⟩

/-- The region, begun in worlds where nothing that was there turns. -/
theorem wp_region_L {id : Nat} {a : Act} {w : World} {l : List Oper} (hm : P.follows .mixedOrders = true)
    (h : wpE P .any l.toArray Q LaterThan l.length (Array.replicate l.length false) a w) : (Code.region id l.toArray true).wp P Q a w :=
  wp_region_E LaterThan lt_refl (lt_drew w) hm (wpE_later lt_trans h (lt_drew w))
end
end Go.Proofs.YtdneeablghlemaaGreatDoor
/- Single steps of regions: an operation of a known value; one that its guard leaves out. No condition. -/
namespace Go.Proofs.YtdneeablghlemaaGreatDoor
open Go.RowKit
section
variable {P : Program} {ops : Array Oper} {Q : Exit → Act → World → Prop} {a : Act} {w : World} {rest : List Oper} {op : Oper}
theorem wpl_val (v : Value) (hw : Region.wanted op (yielded ops a.tmps) = true) (hv : (execOp a.eval op).run P w = .ok (.value v) w) (h : wpList P ops Q rest (a.put op.dst v) w) : wpList P ops Q (op :: rest) a w := wpList_step fun K hK => by
  rw [if_pos hw]
  unfold Oper.wp
  rw [hv]
  exact hK _ _ h
theorem wpl_skip (hw : Region.wanted op (yielded ops a.tmps) = false) (h : wpList P ops Q rest (a.put op.dst undef) w) : wpList P ops Q (op :: rest) a w := wpList_step fun K hK => by
  rw [if_neg (by rw [hw]; exact Bool.false_ne_true)]
  exact hK _ _ h
theorem wpQE_skip {w0 : World} {Q : Act → Prop} (hw : Region.wanted op (yielded ops a.tmps) = false) (h : wpQE P ops w0 Q rest (a.put op.dst undef)) : wpQE P ops w0 Q (op :: rest) a := wpQE_step fun K hK => by
  rw [if_neg (by rw [hw]; exact Bool.false_ne_true)]
  exact hK _ h
/-- Are all these left out by their guards, one behind the other? -/
def skipB (ops : Array Oper) : List Oper → Act → Bool
  | [], _ => true
  | o :: l, a => !(Region.wanted o (yielded ops a.tmps)) && skipB ops l (a.put o.dst undef)
def putU : List Oper → Act → Act
  | [], a => a
  | o :: l, a => putU l (a.put o.dst undef)
theorem wpQE_skips {w0 : World} {Q : Act → Prop} : ∀ (l rest : List Oper) (a : Act), skipB ops l a = true → wpQE P ops w0 Q rest (putU l a) → wpQE P ops w0 Q (l ++ rest) a
  | [], _, _, _, h => h
  | o :: l, rest, a, hs, h => by
    unfold skipB at hs
    rw [Bool.and_eq_true, Bool.not_eq_true'] at hs
    exact wpQE_skip hs.1 (wpQE_skips l rest _ hs.2 h)
/-- A step of a known value, and then as many as are left out by their guards (one by one they cost a minute each: the goal would be a step that is not wanted). -/
theorem wpQE_val_skip {w0 : World} {Q : Act → Prop} (v : Value) (k : Nat) (hw : Region.wanted op (yielded ops a.tmps) = true) (hv : ∀ l : Later w0, (execOp a.eval op).run P l.w = .ok (.value v) l.w)
    (hs : skipB ops (rest.take k) (a.put op.dst v) = true) (h : wpQE P ops w0 Q (rest.drop k) (putU (rest.take k) (a.put op.dst v))) : wpQE P ops w0 Q (op :: rest) a := wpQE_step fun K hK => by
  rw [if_pos hw]
  refine ⟨v, fun l => ?_, hK _ ?_⟩
  · rw [hv l]
    exact ⟨rfl, lt_refl _⟩
  · have := wpQE_skips (P := P) (w0 := w0) (Q := Q) (rest.take k) (rest.drop k) (a.put op.dst v) hs h
    rwa [List.take_append_drop] at this
end
end Go.Proofs.YtdneeablghlemaaGreatDoor
/- A region that draws its order, where some operations only read what no operation of the region turns, and are taken first; the others are carried out in whatever order is left, from world to world by a relation R. No condition. -/
namespace Go.Proofs.YtdneeablghlemaaGreatDoor
open Go.RowKit
section
variable {P : Program} {ops : Array Oper} {Q : Exit → Act → World → Prop} {md : Region.Mode} {R : World → World → Prop}
/-- Whatever order is picked from here on; each operation goes on by R. -/
def wpF (P : Program) (md : Region.Mode) (ops : Array Oper) (Q : Exit → Act → World → Prop) (R : World → World → Prop) : Nat → Array Bool → Act → World → Prop
  | 0, listed, a, w => Region.ready md ops listed = [] ∧ Q .normal a w
  | fuel + 1, listed, a, w => (Region.ready md ops listed = [] → Q .normal a w) ∧
      ∀ i ∈ Region.ready md ops listed, wpOp P ops Q i (fun a' w'' => R w w'' ∧ wpF P md ops Q R fuel (listed.setIfInBounds i true) a' w'') a w
theorem wpAny_of_F : ∀ (fuel : Nat) (listed : Array Bool) (a : Act) (w : World), wpF P md ops Q R fuel listed a w → wpAny P md ops Q fuel listed a w
  | 0, _, _, _, h => h
  | fuel + 1, _, _, _, h => ⟨h.1, fun i hi => wpOp_mono (fun a' w' h' => wpAny_of_F fuel _ a' w' h'.2) (h.2 i hi)⟩
/-- The operation, in every R-later world, yields v, and leaves the world. -/
def YieldsF (P : Program) (ops : Array Oper) (R : World → World → Prop) (w0 : World) (o : Oper) (v : Value) (a : Act) : Prop :=
  (Region.wanted o (yielded ops a.tmps) = true ∧ ∀ w, R w0 w → quietIn P Eq w v ((execOp a.eval o).run P w)) ∨
  (Region.wanted o (yielded ops a.tmps) = false ∧ v = undef)
theorem YieldsF.later (ht : ∀ a b c, R a b → R b c → R a c) {w0 w1 : World} {o : Oper} {v : Value} {a : Act} (hy : YieldsF P ops R w0 o v a) (hw : R w0 w1) : YieldsF P ops R w1 o v a :=
  hy.imp (fun ⟨h1, h2⟩ => ⟨h1, fun w h => h2 w (ht _ _ _ hw h)⟩) id
theorem YieldsF.of_same {w0 : World} {o : Oper} {v : Value} {a a' : Act} (hy : YieldsF P ops R w0 o v a) (he : execOp a'.eval o = execOp a.eval o)
    (hw : Region.wanted o (yielded ops a'.tmps) = Region.wanted o (yielded ops a.tmps)) : YieldsF P ops R w0 o v a' := by
  unfold YieldsF at *
  rw [he, hw]
  exact hy
theorem YieldsF.wpOp {w0 : World} {i : Nat} {o : Oper} {v : Value} {a : Act} (hi : ops[i]? = some o) (hy : YieldsF P ops R w0 o v a) {K : Act → World → Prop} {w : World} (hw0 : R w0 w)
    (h : K (a.put o.dst v) w) : wpOp P ops Q i K a w := by
  unfold Go.wpOp
  simp only [hi]
  rcases hy with ⟨hw, hv⟩ | ⟨hw, rfl⟩
  · simp only [hw, if_true]
    refine .inl ?_
    have h3 := hv w hw0
    unfold Oper.wp
    generalize (execOp a.eval o).run P w = r at *
    cases r with
    | ok n w' =>
      cases n <;> simp only [quietIn] at h3 <;> simp only [Oper.upon]
      case value u => obtain ⟨rfl, rfl⟩ := h3; exact h
      case skip => obtain ⟨rfl, rfl⟩ := h3; exact h
      case enter f args => obtain ⟨rfl, h4⟩ := h3; exact h4.mono fun e w'' ⟨he, hw''⟩ => by subst he; subst hw''; exact h
    | halt x w' => simp only [quietIn] at h3
  · simp only [hw, Bool.false_eq_true, if_false]; exact h

theorem wpOp_putF {w0 : World} {j : Nat} {oi oj : Oper} {v : Value} (hj : ops[j]? = some oj) (hap : oi.apart ops oj = true)
    (hsi : ∀ cs b, oi.op ≠ .select cs b) (hsj : ∀ cs b, oj.op ≠ .select cs b)
    (hQ : ∀ c a w, Q (.panic c) (a.put oi.dst v) w → Q (.panic c) a w) {K : Act → World → Prop} {a : Act} {w : World}
    (hy : YieldsF P ops R w0 oi v a) (h : wpOp P ops Q j K (a.put oi.dst v) w) :
    wpOp P ops Q j (fun a' w' => YieldsF P ops R w0 oi v a' ∧ K (a'.put oi.dst v) w') a w := by
  obtain ⟨h1, h2, h3⟩ := Oper.apart_spec hap
  have keep : ∀ (a : Act), YieldsF P ops R w0 oi v a → ∀ u, YieldsF P ops R w0 oi v (a.put oj.dst u) := fun a hy u =>
    hy.of_same (execOp_put oi hsi a oj.dst u h3) (wanted_put oi a oj.dst u h3)
  have keepD : ∀ d, YieldsF P ops R w0 oi v { a with defers := d :: a.defers } := fun d => hy.of_same rfl rfl
  unfold wpOp at *
  simp only [hj] at *
  rw [wanted_put oj a oi.dst v h1] at h
  split
  · rename_i hw
    simp only [hw, if_true] at h
    rcases h with h | ⟨hasks, hlets⟩
    case inr => exact .inr ⟨by unfold Oper.asks at *; rw [execOp_put oj hsj a oi.dst v h1] at hasks; exact hasks, hlets⟩
    refine .inl ?_
    unfold Oper.wp at *
    rw [execOp_put oj hsj a oi.dst v h1] at h
    generalize (execOp a.eval oj).run P w = r at *
    cases r with
    | ok n w' =>
      cases n <;> simp only [Oper.upon] at h ⊢
      case value u => exact ⟨keep a hy u, by rw [← Act.put_comm a v u h2]; exact h⟩
      case skip => exact ⟨keep a hy _, by rw [← Act.put_comm a v undef h2]; exact h⟩
      case defer d =>
        refine ⟨keep _ (keepD d) _, ?_⟩
        rw [← Act.put_comm _ v undef h2, ← Act.put_defers]
        exact h
      case enter f args =>
        refine Calls.mono h fun e w'' he => ?_
        cases e with
        | returned u => exact ⟨keep a hy u, by rw [← Act.put_comm a v u h2]; exact he⟩
        | panicked c => exact hQ _ _ _ he
        | outgrown => exact he
      case row row args => exact Rows.mono h fun u w'' he => ⟨keep a hy u, by rw [← Act.put_comm a v u h2]; exact he⟩
    | halt x w' =>
      cases x <;> simp only [Oper.upon] at h ⊢
      case panic u => exact hQ _ _ _ h
  · rename_i hw
    simp only [hw] at h
    exact ⟨keep a hy _, by rw [← Act.put_comm a v undef h2]; exact h⟩

theorem wpF_first (hr : ∀ w, R w w) (ht : ∀ a b c, R a b → R b c → R a c) {i : Nat} {oi : Oper} {v : Value} (hi : ops[i]? = some oi) (hsel : ∀ (j : Nat) (o : Oper) cs b, ops[j]? = some o → o.op ≠ .select cs b)
    (hQ : ∀ c a w, Q (.panic c) (a.put oi.dst v) w → Q (.panic c) a w) :
    ∀ (fuel : Nat) (listed : Array Bool) (a : Act) (w : World),
      (∀ j oj, ops[j]? = some oj → j ≠ i → listed.getD j true = false → (∀ e ∈ oj.after, Region.binds md e = true → e.on ≠ i) → oi.apart ops oj = true) →
      i ∈ Region.ready md ops listed → YieldsF P ops R w oi v a →
      wpF P md ops Q R fuel (listed.setIfInBounds i true) (a.put oi.dst v) w → wpF P md ops Q R (fuel + 1) listed a w := by
  intro fuel
  induction fuel with
  | zero =>
    intro listed a w _ hrd hy H
    refine ⟨fun h => (by rw [h] at hrd; cases hrd), fun j hj => ?_⟩
    by_cases hji : j = i
    · subst hji; exact hy.wpOp hi (hr _) ⟨hr _, H⟩
    · have := ready_mono hj hji
      rw [H.1] at this
      cases this
  | succ fuel ih =>
    intro listed a w hfree hrd hy H
    refine ⟨fun h => (by rw [h] at hrd; cases hrd), fun j hj => ?_⟩
    by_cases hji : j = i
    · subst hji; exact hy.wpOp hi (hr _) ⟨hr _, H⟩
    · have h1 := H.2 j (ready_mono hj hji)
      obtain ⟨hjun, oj, hoj, hall⟩ := mem_ready.1 hj
      have hnot : ∀ e ∈ oj.after, Region.binds md e = true → e.on ≠ i := fun e he hb heq => by
        have h1 := hall e he hb
        have h0 := (mem_ready.1 hrd).1
        rw [heq] at h1
        rcases Nat.lt_or_ge i listed.size with h' | h'
        · simp [h'] at h0 h1; rw [h0] at h1; cases h1
        · simp [Array.getElem?_eq_none h'] at h1
      have h2 := wpOp_putF hoj (hfree j oj hoj hji hjun hnot) (fun cs b => hsel i oi cs b hi) (fun cs b => hsel j oj cs b hoj) hQ hy h1
      have hfree' : ∀ k ok, ops[k]? = some ok → k ≠ i → (listed.setIfInBounds j true).getD k true = false →
          (∀ e ∈ ok.after, Region.binds md e = true → e.on ≠ i) → oi.apart ops ok = true := fun k ok hk hki hun hno => by
        refine hfree k ok hk hki ?_ hno
        by_cases hjk : j = k
        · subst hjk; exact hjun
        · rw [getD_set_ne true hjk] at hun; exact hun
      refine wpOp_mono (fun a' w' h3 => ⟨h3.2.1, ih (listed.setIfInBounds j true) a' w' hfree' (ready_mono hrd (Ne.symm hji)) (h3.1.later ht h3.2.1) ?_⟩) h2
      rw [Array.setIfInBounds_comm _ _ hji]
      exact h3.2.2
/-- Some operations that only read, one behind the other. -/
def wpQF (P : Program) (ops : Array Oper) (R : World → World → Prop) (w0 : World) (Q : Act → Prop) : List Oper → Act → Prop
  | [], a => Q a
  | o :: rest, a => if Region.wanted o (yielded ops a.tmps) then ∃ v, (∀ w, R w0 w → quietIn P Eq w v ((execOp a.eval o).run P w)) ∧ wpQF P ops R w0 Q rest (a.put o.dst v) else wpQF P ops R w0 Q rest (a.put o.dst undef)
theorem wpQF_nil {w0 : World} {Q : Act → Prop} {a : Act} (h : Q a) : wpQF P ops R w0 Q [] a := h
theorem wpQF_step {w0 : World} {Q : Act → Prop} {a : Act} {o : Oper} {rest : List Oper}
    (h : ∀ K : Act → Prop, (∀ a, wpQF P ops R w0 Q rest a → K a) → if Region.wanted o (yielded ops a.tmps) then ∃ v, (∀ w, R w0 w → quietIn P Eq w v ((execOp a.eval o).run P w)) ∧ K (a.put o.dst v) else K (a.put o.dst undef)) : wpQF P ops R w0 Q (o :: rest) a :=
  h _ (fun _ h => h)
/-- May the operations 'ord' be taken first, in this order? -/
def ordF (md : Region.Mode) (ops : Array Oper) : List Nat → Array Bool → Bool
  | [], _ => true
  | i :: ord, listed => (Region.ready md ops listed).contains i && Region.free md ops listed i && ordF md ops ord (listed.setIfInBounds i true)
theorem wpF_ord (hr : ∀ w, R w w) (ht : ∀ a b c, R a b → R b c → R a c) {w : World} (hs : Region.noSelect ops = true) (hQ : ∀ d v c a w, Q (.panic c) (Act.put a d v) w → Q (.panic c) a w) {fuel : Nat} {Q' : Act → Prop} : ∀ (ord : List Nat) (l : List Oper) (listed : Array Bool) (a : Act),
    ord.map (fun i => ops[i]?) = l.map some → ordF md ops ord listed = true → wpQF P ops R w Q' l a → (∀ a', Q' a' → wpF P md ops Q R fuel (listAll ord listed) a' w) →
    wpF P md ops Q R (fuel + ord.length) listed a w
  | [], [], _, a, _, _, h, hq => hq a h
  | [], _ :: _, _, _, h, _, _, _ => by simp at h
  | _ :: _, [], _, _, h, _, _, _ => by simp at h
  | i :: ord, o :: l, listed, a, hl, hB, h, hq => by
    simp only [List.map_cons, List.cons.injEq] at hl
    simp only [ordF, Bool.and_eq_true] at hB
    obtain ⟨⟨hrd, hf⟩, hB'⟩ := hB
    have step : ∀ v, YieldsF P ops R w o v a → wpQF P ops R w Q' l (a.put o.dst v) → wpF P md ops Q R (fuel + (ord.length + 1)) listed a w := fun v hy hK =>
      wpF_first hr ht hl.1 (Region.noSelect_spec hs) (hQ _ _) _ listed a w (Region.free_spec hl.1 hf) (by simpa using hrd) hy (wpF_ord hr ht hs hQ ord l _ _ hl.2 hB' hK hq)
    unfold wpQF at h
    split at h
    · rename_i hw
      obtain ⟨v, hv, hK⟩ := h
      exact step v (.inl ⟨hw, hv⟩) hK
    · rename_i hw
      exact step undef (.inr ⟨by simpa using hw, rfl⟩) h
/-- The operations s .. s + k - 1 of the text are taken first. -/
theorem wpF_seg (hr : ∀ w, R w w) (ht : ∀ a b c, R a b → R b c → R a c) {w : World} {L : List Oper} (s k : Nat) (hs : Region.noSelect L.toArray = true) (hQ : ∀ d v c a w, Q (.panic c) (Act.put a d v) w → Q (.panic c) a w) {fuel : Nat} {listed : Array Bool} {a : Act}
    (hl : Nat.ble (s + k) L.length = true) (hB : ordF md L.toArray (List.range' s k) listed = true) (h : wpQF P L.toArray R w (fun a' => wpF P md L.toArray Q R fuel (listAll (List.range' s k) listed) a' w) ((L.drop s).take k) a) :
    wpF P md L.toArray Q R (fuel + k) listed a w := by
  have h1 := wpF_ord hr ht hs hQ (fuel := fuel) (List.range' s k) ((L.drop s).take k) listed a (seg_map L k s (Nat.le_of_ble_eq_true hl)) hB h (fun _ h => h)
  rwa [List.length_range'] at h1
/-- Number i alone may come up: it is carried out, as in a walk. -/
theorem wpF_step (i : Nat) {L : List Oper} {o : Oper} {rest : List Oper} {fuel : Nat} {listed : Array Bool} {a : Act} {w : World} (hd : L.drop i = o :: rest) (hrd : Region.ready md L.toArray listed = [i])
    (h : ∀ K : Act → World → Prop, (∀ a'' w'', R w w'' → wpF P md L.toArray Q R fuel (listed.setIfInBounds i true) a'' w'' → K a'' w'') →
      if Region.wanted o (yielded L.toArray a.tmps) then o.wp P a w K Q else K (a.put o.dst undef) w) : wpF P md L.toArray Q R (fuel + 1) listed a w := by
  refine ⟨fun h0 => (by rw [h0] at hrd; cases hrd), fun j hj => ?_⟩
  rw [hrd] at hj
  obtain rfl : j = i := by simpa using hj
  have h1 := h (fun a' w'' => R w w'' ∧ wpF P md L.toArray Q R fuel (listed.setIfInBounds j true) a' w'') (fun _ _ h2 h3 => ⟨h2, h3⟩)
  unfold wpOp
  simp only [at_drop hd]
  split
  · rename_i hw; rw [if_pos hw] at h1; exact .inl h1
  · rename_i hw; rw [if_neg hw] at h1; exact h1
theorem wpF_done {listed : Array Bool} {a : Act} {w : World} (hrd : Region.ready md ops listed = []) (h : Q .normal a w) : ∀ fuel, wpF P md ops Q R fuel listed a w
  | 0 => ⟨hrd, h⟩
  | _ + 1 => ⟨fun _ => h, fun i hi => by rw [hrd] at hi; cases hi⟩
theorem wp_region_F {id : Nat} {a : Act} {w : World} {l : List Oper} (R : World → World → Prop) (hm : P.follows .mixedOrders = true)
    (h : wpF P .any l.toArray Q R l.length (Array.replicate l.length false) a w.drew) : (Code.region id l.toArray true).wp P Q a w := by
  refine wp_region_any hm ?_
  have := wpAny_of_F l.length (Array.replicate l.length false) a w.drew h
  simpa using this
end
/-- Worlds in which what lay below block number B stays. -/
structure From (B : Nat) (w0 : World) where
  w : World
  hb : Below B w0 w
instance from_nonempty (B : Nat) (w0 : World) : Nonempty (From B w0) := ⟨⟨w0, Below.refl _ _⟩⟩
section
variable {P : Program} {Q : Exit → Act → World → Prop} {md : Region.Mode}
theorem below_refl' (B : Nat) (w : World) : Below B w w := Below.refl _ _
theorem below_trans' (B : Nat) (a b c : World) (h : Below B a b) (k : Below B b c) : Below B a c := h.trans k
/-- .. the relation: what lies below block number B stays. -/
theorem wpB_seg (B s k : Nat) {w : World} {L : List Oper} (hs : Region.noSelect L.toArray = true) (hQ : ∀ d v c a w, Q (.panic c) (Act.put a d v) w → Q (.panic c) a w) {fuel : Nat} {listed : Array Bool} {a : Act}
    (hl : Nat.ble (s + k) L.length = true) (hB : ordF md L.toArray (List.range' s k) listed = true) (h : wpQF P L.toArray (Below B) w (fun a' => wpF P md L.toArray Q (Below B) fuel (listAll (List.range' s k) listed) a' w) ((L.drop s).take k) a) :
    wpF P md L.toArray Q (Below B) (fuel + k) listed a w := wpF_seg (below_refl' B) (below_trans' B) s k hs hQ hl hB h
theorem wpQB_step {B : Nat} {ops : Array Oper} {w0 : World} {Q : Act → Prop} {a : Act} {o : Oper} {rest : List Oper}
    (h : ∀ K : Act → Prop, (∀ a, wpQF P ops (Below B) w0 Q rest a → K a) → if Region.wanted o (yielded ops a.tmps) then ∃ v, (∀ l : From B w0, quietIn P Eq l.w v ((execOp a.eval o).run P l.w)) ∧ K (a.put o.dst v) else K (a.put o.dst undef)) : wpQF P ops (Below B) w0 Q (o :: rest) a := by
  have h1 := h _ (fun _ h => h)
  unfold wpQF
  split at h1
  · obtain ⟨v, hv, hK⟩ := h1
    rw [if_pos (by assumption)]
    exact ⟨v, fun w hw => hv ⟨w, hw⟩, hK⟩
  · rw [if_neg (by assumption)]
    exact h1
end
end Go.Proofs.YtdneeablghlemaaGreatDoor
