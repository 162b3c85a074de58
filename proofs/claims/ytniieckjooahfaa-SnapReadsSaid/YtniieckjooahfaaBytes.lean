/- Words on slices of bytes that are read, and plain numbers made of bytes. No condition. -/
import Derived.Test.YtniieckjooahfaaCore
import Derived.Deep.LoopGhost
namespace Go.Proofs.Ytniieckjooahfaa
open Go.RowKit Go.ChangeShapes Go.WideShapes Go.ChangeAt Go.Deep

def u8v (x : UInt8) : Value := .int .u8 (x.toNat : Int)
/-- The slice '.slice A n c' reads as the bytes xs, below block B. -/
def IsB (w : World) (B : Nat) (A : Option Addr) (n : Nat) (xs : List UInt8) : Prop :=
  xs.length = n ∧ (0 < n → ∃ b off, A = some ⟨b, off, none⟩ ∧ b < B ∧ ∀ i (h : i < xs.length), w.cell? ⟨b, off + i, none⟩ = some (u8v xs[i]))

section
variable {w w' : World} {B B' n : Nat} {A : Option Addr} {xs : List UInt8}
theorem IsB.nil (w : World) (B : Nat) (A : Option Addr) : IsB w B A 0 [] := ⟨rfl, fun h => absurd h (by omega)⟩
theorem IsB.keep (h : IsB w B A n xs) (hk : ∀ p : Addr, p.block < B → w'.cell? p = w.cell? p) : IsB w' B A n xs :=
  ⟨h.1, fun hn => by
    obtain ⟨b, off, e, hb, hc⟩ := h.2 hn
    exact ⟨b, off, e, hb, fun i hi => (hk _ hb).trans (hc i hi)⟩⟩
theorem IsB.more (h : IsB w B A n xs) (hB : B ≤ B') : IsB w B' A n xs :=
  ⟨h.1, fun hn => by
    obtain ⟨b, off, e, hb, hc⟩ := h.2 hn
    exact ⟨b, off, e, by omega, hc⟩⟩
theorem IsB.below (h : IsB w B A n xs) (hb : Below B w w') : IsB w' B A n xs := h.keep fun _ hp => hb.cell hp
theorem IsB.later (h : IsB w w.heap.size A n xs) (l : Later w) : IsB l.w l.w.heap.size A n xs := (h.below l.hb).more l.hb.size
theorem IsB.on (h : IsB w w.heap.size A n xs) (hb : Below w.heap.size w w') : IsB w' w'.heap.size A n xs := (h.below hb).more hb.size
theorem IsB.alloc (h : IsB w w.heap.size A n xs) (o : Obj) : IsB (w.alloc o) (w.alloc o).heap.size A n xs := h.on ((Below.refl _ _).alloc (Nat.le_refl _) o)
theorem IsB.ptr (h : IsB w B A n xs) (hn : 0 < n) : ∃ b off, A = some ⟨b, off, none⟩ ∧ b < B ∧ ∀ i (h : i < xs.length), w.cell? ⟨b, off + i, none⟩ = some (u8v xs[i]) := h.2 hn
/-- One byte of it, as a number; the pointer is known by the way. -/
theorem IsB.byte (h : IsB w B A n xs) {i : Nat} (hi : i < n) : ∃ b off v, A = some ⟨b, off, none⟩ ∧ b < B ∧ (xs.getD i 0).toNat = v ∧ v ≤ 255 ∧ w.cell? ⟨b, off + i, none⟩ = some (.int .u8 (v : Nat)) := by
  obtain ⟨b, off, e, hb, hc⟩ := h.2 (by omega)
  have hl : i < xs.length := by rw [h.1]; exact hi
  have hg : xs.getD i 0 = xs[i] := by simp [List.getD, hl]
  exact ⟨b, off, _, e, hb, rfl, by have := (xs.getD i 0).toNat_lt; omega, by rw [hc i hl, hg]; rfl⟩
/-- .. once the pointer is known. -/
theorem IsB.byteAt {b off : Nat} (h : IsB w B (some ⟨b, off, none⟩) n xs) {i : Nat} (hi : i < n) : ∃ v, (xs.getD i 0).toNat = v ∧ v ≤ 255 ∧ w.cell? ⟨b, off + i, none⟩ = some (.int .u8 (v : Nat)) := by
  obtain ⟨b', off', v, e, _, h1, h2, h3⟩ := h.byte hi
  cases e
  exact ⟨v, h1, h2, h3⟩
/-- A cut of it. -/
theorem IsB.cut (h : IsB w B A n xs) {k m cap : Nat} (hk : k ≤ m) (hm : m ≤ n) (hc : n ≤ cap) :
    IsB w B (if cap = k then A else A.map (·.add k)) (m - k) ((xs.take m).drop k) := by
  refine ⟨by rw [List.length_drop, List.length_take, h.1]; omega, fun hn => ?_⟩
  obtain ⟨b, off, rfl, hb, hcell⟩ := h.2 (by omega)
  rw [if_neg (by omega)]
  refine ⟨b, off + k, ?_, hb, fun i hi => ?_⟩
  · simp only [Option.map_some, Addr.add]
    split
    · rename_i h0; subst h0; rfl
    · rfl
  · have hi' : i < m - k := by
      have := hi; rw [List.length_drop, List.length_take, h.1] at this; omega
    rw [show off + k + i = off + (k + i) by omega, hcell (k + i) (by rw [h.1]; omega)]
    simp [List.getElem_drop, List.getElem_take]
theorem IsB.cut' (h : IsB w B A n xs) {k m cap : Nat} {A' : Option Addr} (hA : A' = if cap = k then A else A.map (·.add k)) (hk : k ≤ m) (hm : m ≤ n) (hc : n ≤ cap) : IsB w B A' (m - k) ((xs.take m).drop k) := hA ▸ h.cut hk hm hc
/-- A cut from place k on, the pointer known, as the walk spells it. -/
theorem IsB.dropAt {b off : Nat} (h : IsB w B (some ⟨b, off, none⟩) n xs) {k cap : Nat} {A' : Option Addr} (hA : (if cap = k then some (⟨b, off, none⟩ : Addr) else some ⟨b, off + k, none⟩) = A') (hk : k ≤ n) (hc : n ≤ cap) : IsB w B A' (n - k) (xs.drop k) := by
  subst hA
  rcases Nat.eq_zero_or_pos k with h0 | h0
  · subst h0
    simpa using h
  · have h1 := h.cut (k := k) (m := n) (cap := cap) hk (Nat.le_refl _) hc
    rw [List.take_of_length_le (by rw [h.1]; exact Nat.le_refl _)] at h1
    have e : (some (⟨b, off, none⟩ : Addr)).map (·.add k) = some ⟨b, off + k, none⟩ := by
      simp only [Option.map_some, Addr.add]
      rw [if_neg (by omega)]
    rw [e] at h1
    exact h1
theorem IsB.take (h : IsB w B A n xs) {m : Nat} (hm : m ≤ n) : IsB w B A m (xs.take m) := by
  refine ⟨by rw [List.length_take, h.1]; omega, fun hn => ?_⟩
  obtain ⟨b, off, rfl, hb, hcell⟩ := h.2 (by omega)
  exact ⟨b, off, rfl, hb, fun i hi => by
    rw [hcell i (by rw [List.length_take] at hi; omega)]
    simp [List.getElem_take]⟩
end

theorem u8_lt (x : UInt8) : (x.toNat : Int) ≤ 255 := by have := x.toNat_lt; omega

/-- The number of k bytes from place 'at_' on; 0 for a byte that there is not. -/
def beN (xs : List UInt8) (at_ : Nat) : Nat → Nat
  | 0 => 0
  | k + 1 => beN xs at_ k * 256 + (xs.getD (at_ + k) 0).toNat
theorem beN_lt (xs : List UInt8) (at_ : Nat) : ∀ k, beN xs at_ k < 256 ^ k
  | 0 => by simp [beN]
  | k + 1 => by
    have h := beN_lt xs at_ k
    have hb := (xs.getD (at_ + k) 0).toNat_lt
    simp only [beN, Nat.pow_succ]
    omega
theorem or_byte (a b : Nat) (hb : b < 256) : a * 256 ||| b = a * 256 + b := by
  have := Nat.two_pow_add_eq_or_of_lt (i := 8) (b := b) (by omega) a
  rw [show (2 : Nat) ^ 8 = 256 by rfl] at this
  rw [Nat.mul_comm]; omega
/-! ### Bits of numbers that are not below 0 -/
theorem u64_or_byte (a v : Nat) (h : a < 72057594037927936) (hv : v ≤ 255) : bits .or .u64 ((a : Int) * 256) (v : Int) = ((a * 256 + v : Nat) : Int) := by
  rw [← or_byte a v (by omega)]
  exact u64_or_nat (a * 256) v (by omega) (by omega)
theorem u32_and_low (s : Nat) (h : s < 4294967296) : bits .and .u32 (s : Int) 65535 = ((s % 65536 : Nat) : Int) := by
  rw [show (65535 : Int) = ((65535 : Nat) : Int) by rfl, u32_and_nat s 65535 h (by omega), show s &&& 65535 = s % 65536 from Nat.and_two_pow_sub_one_eq_mod s 16]
theorem u16_flip (x : Nat) (h : x ≤ 65535) : bits .xor .u16 IntKind.u16.max (x : Int) = ((65535 - x : Nat) : Int) := by
  rw [show IntKind.u16.max = ((65535 : Nat) : Int) by decide, u16_xor_nat 65535 x (by omega) (by omega)]
  have h1 : (BitVec.allOnes 16 ^^^ BitVec.ofNat 16 x).toNat = 65535 - x := by
    rw [BitVec.allOnes_xor, BitVec.toNat_not, BitVec.toNat_ofNat, Nat.mod_eq_of_lt (by omega)]
  rw [BitVec.toNat_xor, BitVec.toNat_ofNat, Nat.mod_eq_of_lt (by omega : x < 2 ^ 16)] at h1
  exact congrArg Int.ofNat h1
theorem beq_nat (a b : Nat) : ((a : Int) == (b : Int)) = decide (a = b) := by
  by_cases h : a = b
  · simp [h]
  · have h' : ¬ (a : Int) = b := by omega
    simp [h, h']
theorem ret_bool {a b : Bool} (h : a = b) : Ending.returned (.bool a) = .returned (.bool b) := by rw [h]
theorem wf_le {k : IntKind} {n : Int} (h : (Lit.int k n).wf = true) : k.min ≤ n ∧ n ≤ k.max := by simpa [Lit.wf] using h
theorem u8_wf {n : Int} (h : (Lit.int .u8 n).wf = true) : 0 ≤ n ∧ n ≤ 255 := by
  have := wf_le h
  simpa [IntKind.min, IntKind.max, IntKind.signed, IntKind.bits] using this
theorem u32_wf {n : Int} (h : (Lit.int .u32 n).wf = true) : 0 ≤ n ∧ n ≤ 4294967295 := by
  have := wf_le h
  simpa [IntKind.min, IntKind.max, IntKind.signed, IntKind.bits] using this
theorem u64_wf {n : Int} (h : (Lit.int .u64 n).wf = true) : 0 ≤ n ∧ n ≤ 18446744073709551615 := by
  have := wf_le h
  simpa [IntKind.min, IntKind.max, IntKind.signed, IntKind.bits] using this
theorem i64_wf {n : Int} (h : (Lit.int .i64 n).wf = true) : -9223372036854775808 ≤ n ∧ n ≤ 9223372036854775807 := by
  have := wf_le h
  simpa [IntKind.min, IntKind.max, IntKind.signed, IntKind.bits] using this
theorem ret_u64 {a b : Int} (h : a = b) : Ending.returned (.int .u64 a) = .returned (.int .u64 b) := by rw [h]
theorem ret_int {k : IntKind} {a b : Int} (h : a = b) : Ending.returned (.int k a) = .returned (.int k b) := by rw [h]
end Go.Proofs.Ytniieckjooahfaa
