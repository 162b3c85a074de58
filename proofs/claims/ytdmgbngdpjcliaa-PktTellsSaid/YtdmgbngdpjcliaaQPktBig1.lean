/- Words that every text of this seat's proofs uses: hiding a fact, a world with more in it, a region that draws its order and whose callees only make memory, a struct argument opened to its cells. No condition. -/
import Derived.Test.YtdmgbngdpjcliaaProg
import Derived.Below
import Derived.BigQuiet
import Derived.ChangeOld
import Derived.Deep.LoopGhost
import Derived.Deep.QuietTactic
import Derived.Deep.Slices
import Derived.Laws.BitsLemmas
import Derived.OpenShut
import Derived.Outline
import Derived.ProofKit
import Derived.ShutString
import Derived.WalkKit
import Derived.WalkLawsBesides
namespace Go.Proofs.Ytdmgbngdpjcliaa
open Go.RowKit Go.ChangeShapes Go.WideShapes Go.ChangeAt Go.Deep

theorem hide {p : Prop} (h : p) : Hid p := h

/-! ### A world that is w0 with more in it -/
structure Later (w0 : World) where
  w : World
  hb : Below w0.heap.size w0 w
instance later_nonempty (w0 : World) : Nonempty (Later w0) := ⟨⟨w0, Below.refl _ _⟩⟩
theorem later_drew (w0 : World) : ∃ l : Later w0, { w0 with drawn := w0.drawn + 1 } = l.w := ⟨⟨w0.drew, (Below.refl _ _).drew⟩, rfl⟩
theorem Later.step {w0 w' : World} (l : Later w0) (h : Below l.w.heap.size l.w w') : ∃ l' : Later w0, w' = l'.w := ⟨⟨w', l.hb.trans (h.mono l.hb.size)⟩, rfl⟩
theorem Later.same {w0 w' : World} (l : Later w0) (h : l.w = w') : ∃ l' : Later w0, w' = l'.w := ⟨l, h.symm⟩
theorem Later.cell {w0 : World} (l : Later w0) {a : Addr} {v : Value} (h : w0.cell? a = some v) : l.w.cell? a = some v := (l.hb.cell (World.block_lt_of_cell? w0 a h)).trans h
theorem Later.size {w0 : World} (l : Later w0) : w0.heap.size ≤ l.w.heap.size := l.hb.size
theorem wp_region_later {P : Program} {id : Nat} {Q : Exit → Act → World → Prop} {a : Act} {w : World} {l : List Oper} (hm : P.follows .mixedOrders = true) (hB : Region.lexB .any l.toArray = true)
    (h : wpQuiet P l.toArray (fun w' => ∃ x : Later w, w' = x.w) (fun a' => ∀ x : Later w, Q .normal a' x.w) l a) : (Code.region id l.toArray true).wp P Q a w := by
  refine wp_region_quiet (C := fun w' => ∃ x : Later w, w' = x.w) hm hB (later_drew w) ?_
  have e : (fun a' => ∀ w', (∃ x : Later w, w' = x.w) → Q .normal a' w') = (fun a' => ∀ x : Later w, Q .normal a' x.w) := by
    funext a'
    exact propext ⟨fun h x => h _ ⟨x, rfl⟩, fun h w' ⟨x, hx⟩ => hx ▸ h x⟩
  rw [e]
  simpa using h

/-! ### A block that is known whole -/
theorem blk_cell {w : World} {g : Nat} {t : TypeId} {cs : Array Value} (h : w.heap[g]? = some (.cells cs t (0, 0))) (i : Nat) : w.cell? ⟨g, i, none⟩ = cs[i]? := cell_of_row w g i cs t (0, 0) h
theorem blk_free {w : World} {g : Nat} {t : TypeId} {cs : Array Value} (h : w.heap[g]? = some (.cells cs t (0, 0))) (i : Nat) : w.frozen? ⟨g, i, none⟩ = false := by simp [World.frozen?, h]
theorem blk_set {w : World} {g : Nat} {t : TypeId} {cs : Array Value} (h : w.heap[g]? = some (.cells cs t (0, 0))) (i : Nat) (u : Value) : (w.setCell ⟨g, i, none⟩ u).heap[g]? = some (.cells (cs.setIfInBounds i u) t (0, 0)) := by
  simp [World.setCell, Array.getElem?_modify, h]
theorem blk_new (w : World) (t : TypeId) (cs : Array Value) : (w.alloc (.cells cs t)).heap[w.heap.size]? = some (.cells cs t (0, 0)) := heap_alloc_new w _
theorem blk_old {w : World} {g : Nat} {x : Option Obj} (o : Obj) (hg : g < w.heap.size) (h : w.heap[g]? = x) : (w.alloc o).heap[g]? = x := (Below.heap_alloc w o g hg).trans h
theorem blk_below {w w' : World} {B g : Nat} {x : Option Obj} (hb : Below B w w') (hg : g < B) (h : w.heap[g]? = x) : w'.heap[g]? = x := (hb.block g hg).trans h
theorem below_mk {B : Nat} {a b c : World} (h : Below B a b) (hB : B ≤ b.heap.size) (k : Below b.heap.size b c) : Below B a c := h.trans (k.mono hB)

/-! ### A struct argument opened to its cells, whatever its fields' fields -/
def leafsOf (P : Program) : Nat → TypeId → Nat → Option (List (TypeId × Nat))
  | 0, _, _ => none
  | n + 1, t, off =>
    match P.underlying t with
    | some (.struct fs) => (fs.toList.mapM fun f => if f.offset + P.cellsOf f.type ≤ P.cellsOf t then leafsOf P n f.type (off + f.offset) else none).map List.flatten
    | some (.array k e) => ((List.range k).mapM fun i => if i * P.cellsOf e + P.cellsOf e ≤ P.cellsOf t then leafsOf P n e (off + i * P.cellsOf e) else none).map List.flatten
    | _ => if P.cellsOf t = 1 then some [(t, off)] else none

section
variable {H : Type} {enc : TypeId × Value → H} {P : Program} {w : World} {base : Nat} {spare : Nat → Bool} {held : Bool}

theorem cut_cut {α : Type} (CS : List α) (off size o c : Nat) (h : o + c ≤ size) : (((CS.drop off).take size).drop o).take c = (CS.drop (off + o)).take c := by
  rw [List.drop_take, List.take_take, List.drop_drop, Nat.min_eq_left (by omega)]

theorem trod_leafs (CS : List Value) : ∀ (n : Nat) (t : TypeId) (off : Nat) (ls : List (TypeId × Nat)) (fuel : Nat) (x : DataW H × List MemPlace), leafsOf P n t off = some ls →
    DataW.trod enc P w base spare held fuel t ((CS.drop off).take (P.cellsOf t)) = some x →
    ∀ u i, (u, i) ∈ ls → ∃ m y, DataW.trod enc P w base spare held m u ((CS.drop i).take 1) = some y
  | 0, _, _, _, _, _, h, _ => by simp [leafsOf] at h
  | n + 1, t, off, ls, fuel, x, h, ht => by
    intro u i hmem
    unfold leafsOf at h
    split at h
    · rename_i fs hu
      obtain ⟨ll, hll, rfl⟩ := Option.map_eq_some_iff.1 h
      obtain ⟨xs, n', _, _, _, hxl, hf⟩ := DataW.trod_struct hu ht
      obtain ⟨l, hl, hil⟩ := List.mem_flatten.1 hmem
      obtain ⟨j, hj, rfl⟩ := List.getElem_of_mem hl
      have hlen : ll.length = fs.size := (mapM_some_length hll).trans (by simp)
      have hjf : j < fs.size := by omega
      have hfj : fs[j]? = some fs[j] := Array.getElem?_eq_getElem hjf
      have hg := mapM_some_get hll j fs[j] (by simp)
      rw [List.getElem?_eq_getElem hj] at hg
      split at hg
      · rename_i hle
        have h1 := hf j fs[j] hfj
        rw [List.getElem?_eq_getElem (by omega), cut_cut _ _ _ _ _ hle] at h1
        exact trod_leafs CS n _ _ _ _ _ hg h1 u i hil
      · cases hg
    · rename_i k e hu
      obtain ⟨ll, hll, rfl⟩ := Option.map_eq_some_iff.1 h
      obtain ⟨l, hl, hil⟩ := List.mem_flatten.1 hmem
      obtain ⟨j, hj, rfl⟩ := List.getElem_of_mem hl
      have hlen : ll.length = k := (mapM_some_length hll).trans (by simp)
      have hg := mapM_some_get hll j j (by rw [List.getElem?_range (by omega)])
      rw [List.getElem?_eq_getElem hj] at hg
      split at hg
      · rename_i hle
        obtain ⟨xs, n', _, _, _, hxl, hf⟩ := DataW.trod_array hu ht
        have h1 := hf j (by omega)
        rw [List.getElem?_eq_getElem (by omega), cut_cut _ _ _ _ _ hle] at h1
        exact trod_leafs CS n _ _ _ _ _ hg h1 u i hil
      · cases hg
    · split at h
      · rename_i hc
        cases h
        simp only [List.mem_singleton, Prod.mk.injEq] at hmem
        obtain ⟨rfl, rfl⟩ := hmem
        rw [hc] at ht
        exact ⟨_, _, ht⟩
      · cases h

/-- A struct value opened: its cells, and each leaf cell's own reading. -/
theorem open_leafs {r : Reach} {b0 : Nat} {t : TypeId} {fs : Array Field} {v : Value} {d : DataW H} {p : List MemPlace} {n : Nat} {ls : List (TypeId × Nat)} (hs : P.underlying t = some (.struct fs)) (hl : leafsOf P n t 0 = some ls)
    (hv : Value.okWide P w r b0 t v) (h : DataW.Trod enc P w base spare held t v d p) :
    ∃ cs : List Value, v = .agg cs.toArray ∧ cs.length = P.cellsOf t ∧ ∀ u i, (u, i) ∈ ls → ∃ m y, DataW.trod enc P w base spare held m u ((cs.drop i).take 1) = some y := by
  obtain ⟨cs, rfl, hsz⟩ := okWide_struct hs hv
  obtain ⟨fuel, hf⟩ := h
  refine ⟨cs.toList, by simp, by simpa using hsz, fun u i hm => ?_⟩
  refine trod_leafs cs.toList n t 0 ls fuel (d, p) hl ?_ u i hm
  · rw [List.drop_zero, ← hsz, ← Array.length_toList, List.take_length]
    exact hf
end
end Go.Proofs.Ytdmgbngdpjcliaa
/- Pieces of a function's code, found by a region's number: so that a walk can be cut into several theorems. No condition. -/
namespace Go.Proofs.Ytdmgbngdpjcliaa
/-- The region with which a piece of code begins. -/
def leftmost : Code → Option Nat
  | .region id _ _ => some id
  | .seq a _ => leftmost a
  | _ => none
/-- The code from region number N on, as far as it stands in one row. -/
def fromRegion (N : Nat) : Code → Option Code
  | .seq a b => if leftmost a = some N then some (.seq a b) else
    match fromRegion N a with
      | some c => some c
      | none => fromRegion N b
  | .block _ c => fromRegion N c
  | .scope c => fromRegion N c
  | .loop c => fromRegion N c
  | .cond _ a b => match fromRegion N a with
    | some c => some c
    | none => fromRegion N b
  | .region id l d => if id = N then some (.region id l d) else none
  | _ => none
/-- What begins with region number N alone. -/
def onlyRegion (N : Nat) (c : Option Code) : Code := match c.bind (fromRegion N) with
  | some (.seq a _) => a
  | some a => a
  | none => .skip
def restFrom (N : Nat) (c : Option Code) : Code := (c.bind (fromRegion N)).getD .skip
end Go.Proofs.Ytdmgbngdpjcliaa
/- Words on slices of bytes that are read, and plain numbers made of bytes. No condition. -/
namespace Go.Proofs.Ytdmgbngdpjcliaa
open Go.RowKit Go.ChangeShapes Go.WideShapes Go.ChangeAt Go.Deep

def u8v (x : UInt8) : Value := .int .u8 (x.toNat : Int)
/-- The slice '.slice A n c' reads as the bytes xs, below block B. -/
def IsB (w : World) (B : Nat) (A : Option Addr) (n : Nat) (xs : List UInt8) : Prop :=
  xs.length = n ∧ (0 < n → ∃ b off, A = some ⟨b, off, none⟩ ∧ b < B ∧ ∀ i (h : i < xs.length), w.cell? ⟨b, off + i, none⟩ = some (u8v xs[i]))

section
variable {w w' : World} {B B' n : Nat} {A : Option Addr} {xs : List UInt8}
theorem IsB.nil (w : World) (B : Nat) (A : Option Addr) : IsB w B A 0 [] := ⟨rfl, fun h => absurd h (by omega)⟩
theorem IsB.keep (h : IsB w B A n xs) (hk : ∀ p : Addr, p.block < B → w'.cell? p = w.cell? p) : IsB w' B A n xs :=
  ⟨h.1, fun hn => by
    obtain ⟨b, off, e, hb, hc⟩ := h.2 hn
    exact ⟨b, off, e, hb, fun i hi => (hk _ hb).trans (hc i hi)⟩⟩
theorem IsB.more (h : IsB w B A n xs) (hB : B ≤ B') : IsB w B' A n xs :=
  ⟨h.1, fun hn => by
    obtain ⟨b, off, e, hb, hc⟩ := h.2 hn
    exact ⟨b, off, e, by omega, hc⟩⟩
theorem IsB.below (h : IsB w B A n xs) (hb : Below B w w') : IsB w' B A n xs := h.keep fun _ hp => hb.cell hp
theorem IsB.later (h : IsB w w.heap.size A n xs) (l : Later w) : IsB l.w l.w.heap.size A n xs := (h.below l.hb).more l.hb.size
theorem IsB.on (h : IsB w w.heap.size A n xs) (hb : Below w.heap.size w w') : IsB w' w'.heap.size A n xs := (h.below hb).more hb.size
theorem IsB.alloc (h : IsB w w.heap.size A n xs) (o : Obj) : IsB (w.alloc o) (w.alloc o).heap.size A n xs := h.on ((Below.refl _ _).alloc (Nat.le_refl _) o)
theorem IsB.ptr (h : IsB w B A n xs) (hn : 0 < n) : ∃ b off, A = some ⟨b, off, none⟩ ∧ b < B ∧ ∀ i (h : i < xs.length), w.cell? ⟨b, off + i, none⟩ = some (u8v xs[i]) := h.2 hn
/-- One byte of it, as a number; the pointer is known by the way. -/
theorem IsB.byte (h : IsB w B A n xs) {i : Nat} (hi : i < n) : ∃ b off v, A = some ⟨b, off, none⟩ ∧ b < B ∧ (xs.getD i 0).toNat = v ∧ v ≤ 255 ∧ w.cell? ⟨b, off + i, none⟩ = some (.int .u8 (v : Nat)) := by
  obtain ⟨b, off, e, hb, hc⟩ := h.2 (by omega)
  have hl : i < xs.length := by rw [h.1]; exact hi
  have hg : xs.getD i 0 = xs[i] := by simp [List.getD, hl]
  exact ⟨b, off, _, e, hb, rfl, by have := (xs.getD i 0).toNat_lt; omega, by rw [hc i hl, hg]; rfl⟩
/-- .. once the pointer is known. -/
theorem IsB.byteAt {b off : Nat} (h : IsB w B (some ⟨b, off, none⟩) n xs) {i : Nat} (hi : i < n) : ∃ v, (xs.getD i 0).toNat = v ∧ v ≤ 255 ∧ w.cell? ⟨b, off + i, none⟩ = some (.int .u8 (v : Nat)) := by
  obtain ⟨b', off', v, e, _, h1, h2, h3⟩ := h.byte hi
  cases e
  exact ⟨v, h1, h2, h3⟩
/-- A cut of it. -/
theorem IsB.cut (h : IsB w B A n xs) {k m cap : Nat} (hk : k ≤ m) (hm : m ≤ n) (hc : n ≤ cap) :
    IsB w B (if cap = k then A else A.map (·.add k)) (m - k) ((xs.take m).drop k) := by
  refine ⟨by rw [List.length_drop, List.length_take, h.1]; omega, fun hn => ?_⟩
  obtain ⟨b, off, rfl, hb, hcell⟩ := h.2 (by omega)
  rw [if_neg (by omega)]
  refine ⟨b, off + k, ?_, hb, fun i hi => ?_⟩
  · simp only [Option.map_some, Addr.add]
    split
    · rename_i h0; subst h0; rfl
    · rfl
  · have hi' : i < m - k := by
      have := hi; rw [List.length_drop, List.length_take, h.1] at this; omega
    rw [show off + k + i = off + (k + i) by omega, hcell (k + i) (by rw [h.1]; omega)]
    simp [List.getElem_drop, List.getElem_take]
theorem IsB.cut' (h : IsB w B A n xs) {k m cap : Nat} {A' : Option Addr} (hA : A' = if cap = k then A else A.map (·.add k)) (hk : k ≤ m) (hm : m ≤ n) (hc : n ≤ cap) : IsB w B A' (m - k) ((xs.take m).drop k) := hA ▸ h.cut hk hm hc
/-- A cut from place k on, the pointer known, as the walk spells it. -/
theorem IsB.dropAt {b off : Nat} (h : IsB w B (some ⟨b, off, none⟩) n xs) {k cap : Nat} {A' : Option Addr} (hA : (if cap = k then some (⟨b, off, none⟩ : Addr) else some ⟨b, off + k, none⟩) = A') (hk : k ≤ n) (hc : n ≤ cap) : IsB w B A' (n - k) (xs.drop k) := by
  subst hA
  rcases Nat.eq_zero_or_pos k with h0 | h0
  · subst h0
    simpa using h
  · have h1 := h.cut (k := k) (m := n) (cap := cap) hk (Nat.le_refl _) hc
    rw [List.take_of_length_le (by rw [h.1]; exact Nat.le_refl _)] at h1
    have e : (some (⟨b, off, none⟩ : Addr)).map (·.add k) = some ⟨b, off + k, none⟩ := by
      simp only [Option.map_some, Addr.add]
      rw [if_neg (by omega)]
    rw [e] at h1
    exact h1
theorem IsB.take (h : IsB w B A n xs) {m : Nat} (hm : m ≤ n) : IsB w B A m (xs.take m) := by
  refine ⟨by rw [List.length_take, h.1]; omega, fun hn => ?_⟩
  obtain ⟨b, off, rfl, hb, hcell⟩ := h.2 (by omega)
  exact ⟨b, off, rfl, hb, fun i hi => by
    rw [hcell i (by rw [List.length_take] at hi; omega)]
    simp [List.getElem_take]⟩
end

theorem u8_lt (x : UInt8) : (x.toNat : Int) ≤ 255 := by have := x.toNat_lt; omega

/-- The number of k bytes from place 'at_' on; 0 for a byte that there is not. -/
def beN (xs : List UInt8) (at_ : Nat) : Nat → Nat
  | 0 => 0
  | k + 1 => beN xs at_ k * 256 + (xs.getD (at_ + k) 0).toNat
theorem beN_lt (xs : List UInt8) (at_ : Nat) : ∀ k, beN xs at_ k < 256 ^ k
  | 0 => by simp [beN]
  | k + 1 => by
    have h := beN_lt xs at_ k
    have hb := (xs.getD (at_ + k) 0).toNat_lt
    simp only [beN, Nat.pow_succ]
    omega
theorem or_byte (a b : Nat) (hb : b < 256) : a * 256 ||| b = a * 256 + b := by
  have := Nat.two_pow_add_eq_or_of_lt (i := 8) (b := b) (by omega) a
  rw [show (2 : Nat) ^ 8 = 256 by rfl] at this
  rw [Nat.mul_comm]; omega
/-! ### Bits of numbers that are not below 0 -/
theorem u64_or_byte (a v : Nat) (h : a < 72057594037927936) (hv : v ≤ 255) : bits .or .u64 ((a : Int) * 256) (v : Int) = ((a * 256 + v : Nat) : Int) := by
  rw [← or_byte a v (by omega)]
  exact u64_or_nat (a * 256) v (by omega) (by omega)
theorem u32_and_low (s : Nat) (h : s < 4294967296) : bits .and .u32 (s : Int) 65535 = ((s % 65536 : Nat) : Int) := by
  rw [show (65535 : Int) = ((65535 : Nat) : Int) by rfl, u32_and_nat s 65535 h (by omega), show s &&& 65535 = s % 65536 from Nat.and_two_pow_sub_one_eq_mod s 16]
theorem u16_flip (x : Nat) (h : x ≤ 65535) : bits .xor .u16 IntKind.u16.max (x : Int) = ((65535 - x : Nat) : Int) := by
  rw [show IntKind.u16.max = ((65535 : Nat) : Int) by decide, u16_xor_nat 65535 x (by omega) (by omega)]
  have h1 : (BitVec.allOnes 16 ^^^ BitVec.ofNat 16 x).toNat = 65535 - x := by
    rw [BitVec.allOnes_xor, BitVec.toNat_not, BitVec.toNat_ofNat, Nat.mod_eq_of_lt (by omega)]
  rw [BitVec.toNat_xor, BitVec.toNat_ofNat, Nat.mod_eq_of_lt (by omega : x < 2 ^ 16)] at h1
  exact congrArg Int.ofNat h1
theorem beq_nat (a b : Nat) : ((a : Int) == (b : Int)) = decide (a = b) := by
  by_cases h : a = b
  · simp [h]
  · have h' : ¬ (a : Int) = b := by omega
    simp [h, h']
theorem ret_bool {a b : Bool} (h : a = b) : Ending.returned (.bool a) = .returned (.bool b) := by rw [h]
theorem wf_le {k : IntKind} {n : Int} (h : (Lit.int k n).wf = true) : k.min ≤ n ∧ n ≤ k.max := by simpa [Lit.wf] using h
theorem u8_wf {n : Int} (h : (Lit.int .u8 n).wf = true) : 0 ≤ n ∧ n ≤ 255 := by
  have := wf_le h
  simpa [IntKind.min, IntKind.max, IntKind.signed, IntKind.bits] using this
theorem u32_wf {n : Int} (h : (Lit.int .u32 n).wf = true) : 0 ≤ n ∧ n ≤ 4294967295 := by
  have := wf_le h
  simpa [IntKind.min, IntKind.max, IntKind.signed, IntKind.bits] using this
theorem u64_wf {n : Int} (h : (Lit.int .u64 n).wf = true) : 0 ≤ n ∧ n ≤ 18446744073709551615 := by
  have := wf_le h
  simpa [IntKind.min, IntKind.max, IntKind.signed, IntKind.bits] using this
theorem i64_wf {n : Int} (h : (Lit.int .i64 n).wf = true) : -9223372036854775808 ≤ n ∧ n ≤ 9223372036854775807 := by
  have := wf_le h
  simpa [IntKind.min, IntKind.max, IntKind.signed, IntKind.bits] using this
theorem ret_u64 {a b : Int} (h : a = b) : Ending.returned (.int .u64 a) = .returned (.int .u64 b) := by rw [h]
theorem ret_int {k : IntKind} {a b : Int} (h : a = b) : Ending.returned (.int k a) = .returned (.int k b) := by rw [h]
end Go.Proofs.Ytdmgbngdpjcliaa
/- octet.At: the number of so many bytes at a place of a slice of bytes. Conditions: the place from 0 on and below 2^62, at most 8 bytes. -/
namespace Go.Proofs.Ytdmgbngdpjcliaa
open Go.RowKit Go.ChangeShapes Go.WideShapes Go.ChangeAt Go.Deep
namespace Octet
theorem pow_le (k : Nat) (h : k ≤ 7) : 256 ^ k ≤ 72057594037927936 := by
  have : 256 ^ k ≤ 256 ^ 7 := Nat.pow_le_pow_right (by omega) h
  omega
theorem beN_bd (xs : List UInt8) (p k : Nat) (h : k ≤ 7) : beN xs p k < 72057594037927936 := by
  have h1 := beN_lt xs p k
  have h2 := pow_le k h
  omega
theorem beN_bd8 (xs : List UInt8) (p k : Nat) (h : k ≤ 8) : beN xs p k < 18446744073709551616 := by
  have h1 := beN_lt xs p k
  have : 256 ^ k ≤ 256 ^ 8 := Nat.pow_le_pow_right (by omega) h
  omega
set_option maxHeartbeats 1000000 in
theorem at_any (A : Option Addr) (n c : Nat) (xs : List UInt8) (p k : Nat) (w : World) (hx : IsB w w.heap.size A n xs) (hn : n ≤ maxLen) (hp : p ≤ 4611686018427387904) (hk : k ≤ 8) :
    Calls Try.prog 39 #[.slice A n c, .int .i64 (p : Int), .int .i64 (k : Int)] w fun e w' => e = .returned (.int .u64 (beN xs p k : Nat)) ∧ w = w' := by
  unfold maxLen at hn
  go_enter Try.func39, Try.ntmps39
  go_wp2
  go_loop [7, 13] (fun m i => ∃ j : Nat, j ≤ k ∧ i = .int .i64 (j : Int) ∧ m = .int .u64 (beN xs p j : Nat)) (fun _ i => k - (intOf i).toNat)
  case atStart => exact ⟨0, Nat.zero_le _, rfl, rfl⟩
  case round =>
    obtain ⟨j, hj, rfl, rfl⟩ := hrel
    by_cases hlt : j < k
    · have hb := beN_bd xs p j (by omega)
      by_cases hin : p + j < n
      · obtain ⟨b, off, v, rfl, hbl, hv, hv255, hcell⟩ := hx.byte hin
        replace hv := hide hv
        go_wp2
        refine ⟨⟨j + 1, by omega, by go_num, ?_⟩, by simp [intOf]; omega⟩
        rw [u64_or_byte _ _ hb hv255, beN, hv.out]
      · have h0 : xs.getD (p + j) 0 = 0 := by
          have := hx.1
          simp [List.getD, List.getElem?_eq_none (show xs.length ≤ p + j by omega)]
        replace h0 := hide h0
        go_wp2
        refine ⟨⟨j + 1, by omega, by go_num, ?_⟩, by simp [intOf]; omega⟩
        rw [beN, h0.out]
        simp
    · obtain rfl : j = k := by omega
      go_wp2
      go_ret
      exact ⟨rfl, rfl⟩
/-- .. the place and the number of bytes as the walk spells them. -/
theorem at_lit (pi ki : Int) (p k : Nat) (hpi : pi = (p : Int)) (hki : ki = (k : Int)) (A : Option Addr) (n c : Nat) (xs : List UInt8) (w : World) (hx : IsB w w.heap.size A n xs) (hn : n ≤ maxLen) (hp : p ≤ 4611686018427387904) (hk : k ≤ 8) :
    Calls Try.prog 39 #[.slice A n c, .int .i64 pi, .int .i64 ki] w fun e w' => e = .returned (.int .u64 (beN xs p k : Nat)) ∧ w = w' := by
  subst hpi hki
  exact at_any A n c xs p k w hx hn hp hk
end Octet
end Go.Proofs.Ytdmgbngdpjcliaa
/- Plain numbers: the sum of bytes two by two with the carries added again, however it is reckoned. No condition. -/
namespace Go.Proofs.Ytdmgbngdpjcliaa
namespace Sum
/-- A number with all above 16 bits added again. -/
def ones (n : Nat) : Nat := if n = 0 then 0 else (n - 1) % 65535 + 1
/-- The bytes, two by two, the first one the higher. -/
def tot : Bool → List UInt8 → Nat
  | _, [] => 0
  | o, c :: l => (if o then c.toNat else 256 * c.toNat) + tot (!o) l
def stepS (s : Nat × Bool) (c : UInt8) : Nat × Bool :=
  ((s.1 + (if s.2 then c.toNat else 256 * c.toNat)) % 65536 + (s.1 + (if s.2 then c.toNat else 256 * c.toNat)) / 65536, !s.2)
def runS (s : Nat × Bool) (l : List UInt8) : Nat × Bool := l.foldl stepS s

theorem ones_congr {a b : Nat} (h : a % 65535 = b % 65535) (h0 : a = 0 ↔ b = 0) : ones a = ones b := by unfold ones; split <;> split <;> omega
theorem ones_small {a : Nat} (h : a ≤ 65535) : ones a = a := by unfold ones; split <;> omega
theorem ones_le (a : Nat) : ones a ≤ 65535 := by unfold ones; split <;> omega
theorem ones_fold (a : Nat) : ones (a % 65536 + a / 65536) = ones a := ones_congr (by omega) (by omega)
theorem fold_lt {a : Nat} (h : 65535 < a) : a % 65536 + a / 65536 < a := by omega
theorem stepS_le (s : Nat × Bool) (c : UInt8) (h : s.1 ≤ 65536) : (stepS s c).1 ≤ 65536 := by
  have := c.toNat_lt
  unfold stepS; dsimp only; split <;> omega
theorem runS_le (l : List UInt8) : ∀ s : Nat × Bool, s.1 ≤ 65536 → (runS s l).1 ≤ 65536 := by
  induction l with
  | nil => intro s h; exact h
  | cons c l ih => intro s h; exact ih _ (stepS_le s c h)
theorem runS_tot (l : List UInt8) : ∀ s : Nat × Bool, (runS s l).1 % 65535 = (s.1 + tot s.2 l) % 65535 ∧ ((runS s l).1 = 0 ↔ s.1 + tot s.2 l = 0) := by
  induction l with
  | nil => intro s; simp [runS, tot]
  | cons c l ih =>
    intro s
    have h := ih (stepS s c)
    show ((runS (stepS s c) l).1 % 65535 = _) ∧ ((runS (stepS s c) l).1 = 0 ↔ _)
    obtain ⟨s1, s2⟩ := s
    cases s2 <;> simp only [stepS, tot, Bool.not_false, Bool.not_true, if_true, Bool.false_eq_true, if_false] at h ⊢ <;> omega
theorem ones_run (l : List UInt8) : ones (runS (0, false) l).1 = ones (tot false l) := by
  have h := runS_tot l (0, false)
  simp only [Nat.zero_add] at h
  exact ones_congr h.1 h.2
theorem runS_append (s : Nat × Bool) (a b : List UInt8) : runS s (a ++ b) = runS (runS s a) b := List.foldl_append ..
theorem runS_take (s : Nat × Bool) (l : List UInt8) (j : Nat) (h : j < l.length) : runS s (l.take (j + 1)) = stepS (runS s (l.take j)) l[j] := by
  rw [List.take_succ_eq_append_getElem h, runS_append]; rfl
theorem runS_snd (l : List UInt8) : ∀ s : Nat × Bool, (runS s l).2 = (s.2 ^^ decide (l.length % 2 = 1)) := by
  induction l with
  | nil => intro s; simp [runS]
  | cons c l ih =>
    intro s
    show (runS (stepS s c) l).2 = _
    rw [ih]
    have e : decide ((c :: l).length % 2 = 1) = !decide (l.length % 2 = 1) := by
      simp only [List.length_cons]
      by_cases h : l.length % 2 = 1
      · have : ¬ (l.length + 1) % 2 = 1 := by omega
        simp [h, this]
      · have : (l.length + 1) % 2 = 1 := by omega
        simp [h, this]
    rw [e]
    simp [stepS]
theorem tot_append (a b : List UInt8) : ∀ o : Bool, tot o (a ++ b) = tot o a + tot (o ^^ decide (a.length % 2 = 1)) b := by
  induction a with
  | nil => intro o; simp [tot]
  | cons c a ih =>
    intro o
    simp only [List.cons_append, tot, ih, Nat.add_assoc]
    have e : (!o ^^ decide (a.length % 2 = 1)) = (o ^^ decide ((c :: a).length % 2 = 1)) := by
      simp only [List.length_cons]
      by_cases h : a.length % 2 = 1
      · have : ¬ (a.length + 1) % 2 = 1 := by omega
        simp [h, this]
      · have : (a.length + 1) % 2 = 1 := by omega
        simp [h, this]
    rw [e]
theorem tot_le (l : List UInt8) : ∀ o, tot o l ≤ 65280 * l.length := by
  induction l with
  | nil => intro o; simp [tot]
  | cons c l ih =>
    intro o
    have := ih (!o)
    have hc := c.toNat_lt
    simp only [tot, List.length_cons]
    split <;> omega
/-- The words of bytes. -/
def words : List UInt8 → List Nat
  | [] => []
  | [a] => [256 * a.toNat]
  | a :: b :: l => (256 * a.toNat + b.toNat) :: words l
theorem words_sum : ∀ l : List UInt8, (words l).sum = tot false l
  | [] => rfl
  | [a] => by simp [words, tot]
  | a :: b :: l => by simp [words, tot, words_sum l]; omega
theorem words_length : ∀ l : List UInt8, (words l).length = (l.length + 1) / 2
  | [] => rfl
  | [a] => by simp [words]
  | a :: b :: l => by simp [words, words_length l]; omega
theorem words_le : ∀ (l : List UInt8), ∀ x ∈ words l, x ≤ 65535
  | [] => by simp [words]
  | [a] => by have := a.toNat_lt; simp [words]; omega
  | a :: b :: l => by
    have := a.toNat_lt
    have := b.toNat_lt
    intro x hx
    simp only [words, List.mem_cons] at hx
    rcases hx with rfl | hx
    · omega
    · exact words_le l x hx
theorem words_get : ∀ (l : List UInt8) (j : Nat), 2 * j < l.length → (words l)[j]? = some (256 * (l.getD (2 * j) 0).toNat + (l.getD (2 * j + 1) 0).toNat)
  | [], j, h => by simp at h
  | [a], j, h => by
    obtain rfl : j = 0 := by simp at h; omega
    simp [words]
  | a :: b :: l, 0, _ => by simp [words]
  | a :: b :: l, j + 1, h => by
    have := words_get l j (by simp at h; omega)
    simp only [words, List.getElem?_cons_succ, this]
    simp [show 2 * (j + 1) = 2 * j + 1 + 1 by omega]
end Sum
end Go.Proofs.Ytdmgbngdpjcliaa
/- The program's sum of Internet bytes (sum.Of, sum.Right, sum.Check), by contract. Conditions: the parts are slices of bytes that read as lists. -/
namespace Go.Proofs.Ytdmgbngdpjcliaa
open Go.RowKit Go.ChangeShapes Go.WideShapes Go.ChangeAt Go.Deep
namespace Sum
set_option maxHeartbeats 1000000 in
theorem fold_any (s : Nat) (w : World) (hs : s < 4294967296) :
    Calls Try.prog 95 #[.int .u32 (s : Int)] w fun e w' => e = .returned (.int .u16 (ones s : Nat)) ∧ w = w' := by
  go_enter Try.func95, Try.ntmps95
  go_wp2
  go_loop [0] (fun v => ∃ t : Nat, t < 4294967296 ∧ ones t = ones s ∧ v = .int .u32 (t : Int)) (fun v => (intOf v).toNat)
  case atStart => exact ⟨s, hs, rfl, rfl⟩
  case round =>
    obtain ⟨t, ht, ho, rfl⟩ := hrel
    replace ho := hide ho
    have hand := u32_and_low t ht
    by_cases hlt : 65535 < t
    · go_wp2
      refine ⟨⟨t % 65536 + t / 65536, by omega, by rw [ones_fold]; exact ho.out, by go_num⟩, by simp [intOf]; omega⟩
    · have ht' : t ≤ 65535 := by omega
      go_wp2
      go_ret
      rw [← ho.out, ones_small ht']
      exact ⟨rfl, rfl⟩
/-- A part: a slice of bytes. -/
structure Part where
  A : Option Addr
  c : Nat
  xs : List UInt8
def Part.val (p : Part) : Value := .slice p.A p.xs.length p.c
def IsP (w : World) (B : Nat) (A : Option Addr) (n : Nat) (ps : List Part) : Prop :=
  ps.length = n ∧ (0 < n → ∃ b off, A = some ⟨b, off, none⟩ ∧ b < B ∧ ∀ i (h : i < ps.length), w.cell? ⟨b, off + i, none⟩ = some ps[i].val) ∧ ∀ p ∈ ps, IsB w B p.A p.xs.length p.xs ∧ p.xs.length ≤ maxLen
def flat (ps : List Part) : List UInt8 := ps.flatMap (·.xs)
theorem flat_take (ps : List Part) (i : Nat) (h : i < ps.length) : flat (ps.take (i + 1)) = flat (ps.take i) ++ ps[i].xs := by
  unfold flat
  rw [List.take_succ_eq_append_getElem h, List.flatMap_append]
  simp only [List.flatMap_singleton]
theorem IsP.part {w : World} {B n : Nat} {A : Option Addr} {ps : List Part} (h : IsP w B A n ps) {i : Nat} (hi : i < n) :
    ∃ b off A' c xs, A = some ⟨b, off, none⟩ ∧ w.cell? ⟨b, off + i, none⟩ = some (.slice A' xs.length c) ∧ IsB w B A' xs.length xs ∧ xs.length ≤ maxLen ∧ flat (ps.take (i + 1)) = flat (ps.take i) ++ xs := by
  obtain ⟨b, off, e, _, hc⟩ := h.2.1 (by omega)
  have hl : i < ps.length := by rw [h.1]; exact hi
  have hp := h.2.2 ps[i] (List.getElem_mem hl)
  exact ⟨b, off, _, _, _, e, hc i hl, hp.1, hp.2, flat_take ps i hl⟩

set_option maxHeartbeats 2000000 in
theorem of_any (A : Option Addr) (n c : Nat) (ps : List Part) (w : World) (hx : IsP w w.heap.size A n ps) (hn : n ≤ maxLen) :
    Calls Try.prog 83 #[.slice A n c] w fun e w' => e = .returned (.int .u16 (ones (tot false (flat ps)) : Nat)) ∧ w = w' := by
  unfold maxLen at hn
  go_enter Try.func83, Try.ntmps83
  go_wp2
  go_loop [3, 4, 11] (fun s o i => ∃ (k m : Nat) (b : Bool), k ≤ n ∧ i = .int .i64 (k : Int) ∧ s = .int .u32 (m : Int) ∧ o = .bool b ∧ m ≤ 65536 ∧ (m, b) = runS (0, false) (flat (ps.take k))) (fun _ _ i => n - (intOf i).toNat)
  case atStart => exact ⟨0, 0, false, Nat.zero_le _, rfl, rfl, rfl, by omega, by simp [flat, runS]⟩
  case round =>
    obtain ⟨k, m, b, hk, rfl, rfl, rfl, hm, hr⟩ := hrel
    replace hr := hide hr
    by_cases hlt : k < n
    · obtain ⟨bl, off, A', c', xs, rfl, hcell, hxs, hxl, hft⟩ := hx.part hlt
      replace hft := hide hft
      unfold maxLen at hxl
      go_wp2
      go_loop [3, 4, 17] (fun s o i => ∃ (j m' : Nat) (b' : Bool), j ≤ xs.length ∧ i = .int .i64 (j : Int) ∧ s = .int .u32 (m' : Int) ∧ o = .bool b' ∧ m' ≤ 65536 ∧ (m', b') = runS (m, b) (xs.take j)) (fun _ _ i => xs.length - (intOf i).toNat)
      case atStart => exact ⟨0, m, b, Nat.zero_le _, rfl, rfl, rfl, hm, by simp [runS]⟩
      case round =>
        obtain ⟨j, m', b', hj, rfl, rfl, rfl, hm', hr'⟩ := hrel
        replace hr' := hide hr'
        by_cases hjl : j < xs.length
        · obtain ⟨bb, ofb, v, rfl, hbl, hv, hv255, hcb⟩ := hxs.byte hjl
          have hs := runS_take (m, b) xs j hjl
          have hg : xs[j] = xs.getD j 0 := by simp [List.getD, hjl]
          rw [← hr'.out, hg] at hs
          have hle := stepS_le (m', b') (xs.getD j 0) hm'
          unfold stepS at hs hle
          rw [hv] at hs hle
          replace hs := hide hs
          replace hv := hide hv
          replace hg := hide hg
          cases b'
          · have hand : bits .and .u32 ((m' : Int) + (v : Int) * 256) 65535 = ((m' : Int) + (v : Int) * 256) % 65536 := by
              have h1 := u32_and_low (m' + v * 256) (by omega)
              rw [show ((m' : Int) + (v : Int) * 256) = ((m' + v * 256 : Nat) : Int) by omega, h1]; omega
            simp only [Bool.false_eq_true, if_false] at hle
            go_wp2
            refine ⟨⟨j + 1, (m' + 256 * v) % 65536 + (m' + 256 * v) / 65536, true, by omega, by go_num, by go_num, rfl, by omega, by rw [hs.out]; rfl⟩, by simp [intOf]; omega⟩
          · have hand : bits .and .u32 ((m' : Int) + (v : Int)) 65535 = ((m' : Int) + (v : Int)) % 65536 := by
              have h1 := u32_and_low (m' + v) (by omega)
              rw [show ((m' : Int) + (v : Int)) = ((m' + v : Nat) : Int) by omega, h1]; omega
            simp only [if_true] at hle
            go_wp2
            refine ⟨⟨j + 1, (m' + v) % 65536 + (m' + v) / 65536, false, by omega, by go_num, by go_num, rfl, by omega, by rw [hs.out]; rfl⟩, by simp [intOf]; omega⟩
        · obtain rfl : j = xs.length := by omega
          go_wp2
          refine ⟨⟨k + 1, m', b', by omega, by go_num, rfl, rfl, hm', ?_⟩, by simp [intOf]; omega⟩
          have h1 := hr'.out
          rw [List.take_length] at h1
          rw [h1, hr.out, hft.out, runS_append]
    · obtain rfl : k = n := by omega
      go_wp2_with (go_at_call 95; refine (fold_any _ _ (by omega)).mono ?_; rintro e w' ⟨rfl, rfl⟩)
      go_ret
      refine ⟨ret_int ?_, rfl⟩
      have h1 := hr.out
      rw [show ps.take k = ps by rw [← hx.1, List.take_length]] at h1
      have h2 := ones_run (flat ps)
      rw [← h1] at h2
      exact congrArg _ h2
theorem right_any (A : Option Addr) (n c : Nat) (ps : List Part) (w : World) (hx : IsP w w.heap.size A n ps) (hn : n ≤ maxLen) (r : Bool) (hr : decide (ones (tot false (flat ps)) = 65535) = r) :
    Calls Try.prog 53 #[.slice A n c] w fun e w' => e = .returned (.bool r) ∧ w = w' := by
  replace hr := hide hr
  go_enter Try.func53, Try.ntmps53
  go_wp2_with (go_at_call 83; refine (of_any _ _ _ ps _ hx hn).mono ?_; rintro e w' ⟨rfl, rfl⟩)
  go_ret
  exact ⟨ret_bool (by rw [← hr.out]; exact beq_nat _ 65535), rfl⟩
theorem check_any (A : Option Addr) (n c : Nat) (ps : List Part) (w : World) (hx : IsP w w.heap.size A n ps) (hn : n ≤ maxLen) :
    Calls Try.prog 82 #[.slice A n c] w fun e w' => e = .returned (.int .u16 ((65535 - ones (tot false (flat ps)) : Nat))) ∧ w = w' := by
  have hle := ones_le (tot false (flat ps))
  have hs : IntKind.u16.signed = false := rfl
  go_enter Try.func82, Try.ntmps82
  go_wp2_with (go_at_call 83; refine (of_any _ _ _ ps _ hx hn).mono ?_; rintro e w' ⟨rfl, rfl⟩)
  go_ret
  exact ⟨ret_int (u16_flip _ hle), rfl⟩
end Sum
end Go.Proofs.Ytdmgbngdpjcliaa
/- Bits of numbers that are not below 0: masks and joins that the kit does not bring. -/
namespace Go.Proofs.Ytdmgbngdpjcliaa
open Go.RowKit Go.ChangeShapes Go.WideShapes Go.ChangeAt Go.Deep
theorem wraps62 (n : Int) (h0 : 0 ≤ n) (h1 : n < 2 ^ 62) : IntKind.i64.wrap n = n := by rw [IntKind.wrap_i64]; omega
theorem wrapsu64 (n : Int) (h0 : 0 ≤ n) (h1 : n < 2 ^ 64) : IntKind.u64.wrap n = n := by
  have h := IntKind.wrap_u64 n
  rw [h]; omega
theorem i64_and1 (x : Int) (h0 : 0 ≤ x) (h1 : x < 4611686018427387904) : bits .and .i64 x 1 = x % 2 := bits_mask .i64 62 (by decide) wraps62 1 (by decide) x h0 h1
theorem i64_and8191 (x : Int) (h0 : 0 ≤ x) (h1 : x < 4611686018427387904) : bits .and .i64 x 8191 = x % 8192 := bits_mask .i64 62 (by decide) wraps62 13 (by decide) x h0 h1
theorem i64_or64 (x : Int) (h0 : 0 ≤ x) (h1 : x < 64) : bits .or .i64 64 x = 64 + x := bits_join .i64 62 (by decide) wraps62 6 64 x (by decide) (by decide) (by decide) h0 h1 (by omega)
theorem u64_or_hi (x : Int) (i : Nat) (hi : i ≤ 63) (h0 : 0 ≤ x) (h1 : x < 2 ^ i) : bits .or .u64 (2 ^ i) x = 2 ^ i + x := by
  have hp : (2 : Int) ^ i < 2 ^ 64 := by
    have h := Nat.pow_lt_pow_right (a := 2) (by omega) (show i < 64 by omega)
    exact_mod_cast h
  have hq : (0 : Int) ≤ 2 ^ i := by exact_mod_cast Nat.zero_le (2 ^ i)
  exact bits_join .u64 64 (by decide) wrapsu64 i (2 ^ i) x hq (by simp) hp h0 h1 (by omega)
theorem or_comm_bits (k : IntKind) (x y : Int) : bits .or k x y = bits .or k y x := by simp only [bits, BitVec.or_comm]
theorem u64_or16384 (x : Int) (h0 : 0 ≤ x) (h1 : x < 16384) : bits .or .u64 x 16384 = x + 16384 := by
  rw [or_comm_bits, show (16384 : Int) = 2 ^ 14 by rfl, u64_or_hi x 14 (by omega) h0 h1]
  omega
theorem u64_or8192 (x : Int) (h0 : 0 ≤ x) (h1 : x < 8192) : bits .or .u64 x 8192 = x + 8192 := by
  rw [or_comm_bits, show (8192 : Int) = 2 ^ 13 by rfl, u64_or_hi x 13 (by omega) h0 h1]
  omega
theorem u64_or8192' (x : Int) (h0 : 0 ≤ x) (h1 : x < 8192) : bits .or .u64 (x + 16384) 8192 = x + 16384 + 8192 := by
  rw [← u64_or16384 x h0 (by omega)]
  have h : bits .or .u64 (bits .or .u64 x 16384) 8192 = bits .or .u64 x 24576 := by
    have e : bits .or .u64 16384 8192 = 24576 := by decide
    obtain ⟨a, rfl⟩ := Int.eq_ofNat_of_zero_le h0
    have ha : a < 18446744073709551616 := by omega
    rw [show (16384 : Int) = ((16384 : Nat) : Int) by rfl, show (8192 : Int) = ((8192 : Nat) : Int) by rfl, show (24576 : Int) = ((24576 : Nat) : Int) by rfl]
    have b1 := (bits_nat .u64 64 (by decide) wrapsu64 a 16384 ha (by omega)).2
    have hlt : a ||| 16384 < 2 ^ 64 := Nat.or_lt_two_pow ha (by omega)
    rw [b1, (bits_nat .u64 64 (by decide) wrapsu64 (a ||| 16384) 8192 hlt (by omega)).2, (bits_nat .u64 64 (by decide) wrapsu64 a 24576 ha (by omega)).2, Nat.or_assoc]
    rfl
  rw [h]
  have j := bits_join .u64 64 (by decide) wrapsu64 13 24576 x (by decide) (by decide) (by decide) h0 (by omega) (by omega)
  rw [or_comm_bits, j, u64_or16384 x h0 (by omega)]
  omega
end Go.Proofs.Ytdmgbngdpjcliaa
