/- The statement FourQuotes, walked: what any bytes quote, and what goes into a check. Conditions: slices of bytes that read as lists, numbers of 64 bits. -/
import Derived.Test.YtniieckjooahfaaFourAwake
import Derived.Test.YtniieckjooahfaaFourPlain
import Derived.Test.YtniieckjooahfaaFourQuote
import Derived.Test.YtniieckjooahfaaFourPseudo
import Derived.Test.YtniieckjooahfaaAddrBytes
import Derived.Test.YtniieckjooahfaaRegionG
import Derived.Test.YtniieckjooahfaaSub
import Derived.Deep.DeepCutAuto
namespace Go.Proofs.Ytniieckjooahfaa
open Go.RowKit Go.ChangeShapes Go.WideShapes Go.ChangeAt Go.Deep
namespace Four
/-- A world that is later than a later one. -/
def _root_.Go.Proofs.Ytniieckjooahfaa.Later.up {w0 w1 : World} (h : Below w0.heap.size w0 w1) (l : Later w1) : Later w0 := ⟨l.w, h.trans (l.hb.mono h.size)⟩
/-- What is known of what bytes quote. -/
def Quoted (w : World) (n : Nat) (xs : List UInt8) (frag ttl proto slo dlo n1 : Nat) (A2 : Option Addr) (m2 : Nat) : Prop :=
  20 ≤ n ∧ (xs.getD 0 0).toNat / 16 = 4 ∧ (xs.getD 9 0).toNat = proto ∧ (xs.getD 8 0).toNat = ttl ∧ beN xs 12 4 = slo ∧ beN xs 16 4 = dlo ∧ beN xs 6 2 % 8192 = frag ∧ n1 + 20 = (xs.getD 0 0).toNat % 16 * 4 ∧ n1 + 20 ≤ n ∧ n1 + 20 ≤ 60 ∧ IsB w w.heap.size A2 m2 (xs.drop (n1 + 20))
theorem Quoted.on {w w' : World} {n : Nat} {xs : List UInt8} {frag ttl proto slo dlo n1 : Nat} {A2 : Option Addr} {m2 : Nat} (h : Quoted w n xs frag ttl proto slo dlo n1 A2 m2) (hb : Below w.heap.size w w') : Quoted w' n xs frag ttl proto slo dlo n1 A2 m2 := by
  obtain ⟨a, b, c, d, e, f, g, i, j, k, l⟩ := h
  exact ⟨a, b, c, d, e, f, g, i, j, k, l.on hb⟩
theorem quote_any (A : Option Addr) (n c : Nat) (xs : List UInt8) (w : World) (hx : IsB w w.heap.size A n xs) (hnc : n ≤ c) (hcm : c ≤ maxLen) (hnm : n ≤ 1099511627776) (k : Nat) (hk : quoteK n xs = k) :
    Calls Try.prog 55 #[.slice A n c] w fun e w' => ∃ (tos id : Nat) (df mf : Bool) (frag ttl proto slo dlo : Nat) (A1 : Option Addr) (n1 c1 : Nat) (A2 : Option Addr) (m2 c2 : Nat),
      e = .returned (.tuple #[hdV tos id df mf frag ttl proto false 0 slo false 0 dlo A1 n1 c1, .slice A2 m2 c2, .int .i64 (k : Int)]) ∧ n1 ≤ 1099511627776 ∧ (k = 0 → Quoted w' n xs frag ttl proto slo dlo n1 A2 m2) ∧ Below w.heap.size w w' := by
  by_cases hk0 : k = 0
  · subst hk0
    unfold quoteK at hk
    split at hk
    · cases hk
    rename_i h1
    split at hk
    · cases hk
    rename_i h2
    split at hk
    · cases hk
    rename_i h3
    have h2' : (xs.getD 0 0).toNat / 16 = 4 := by omega
    refine (quote_ok A n c xs w hx hnc hcm hnm (by omega) h2' _ rfl (by omega) (by omega)).mono ?_
    rintro e w' ⟨A1, c1, A2, c2, rfl, i1, i2, i3, i4, i5⟩
    have hlt := (xs.getD 0 0).toNat_lt
    refine ⟨_, _, _, _, _, _, _, _, _, _, _, _, _, _, _, rfl, by omega, fun _ => ⟨by omega, h2', rfl, rfl, rfl, rfl, rfl, by omega, by omega, by omega, ?_⟩, i5⟩
    rw [show (xs.getD 0 0).toNat % 16 * 4 - 20 + 20 = (xs.getD 0 0).toNat % 16 * 4 by omega]
    exact i4.reads.2.2.2
  · refine (quote_no A n c xs w hx hnc hnm k hk hk0).mono ?_
    rintro e w' ⟨rfl, hb⟩
    exact ⟨0, 0, false, false, 0, 0, 0, 0, 0, none, 0, 0, none, 0, 0, rfl, by omega, fun h => absurd h hk0, hb⟩
theorem why_any (A : Option Addr) (n c : Nat) (xs : List UInt8) (w : World) (hx : IsB w w.heap.size A n xs) (hnc : n ≤ c) (hn : n ≤ 300) :
    Calls Try.prog 46 #[.slice A n c] w fun e w' => ∃ k : Nat, e = .returned (.int .i64 (k : Int)) ∧ (n < 20 → k = 2) ∧ (20 ≤ n → (xs.getD 0 0).toNat / 16 ≠ 4 → k = 10) ∧ Below w.heap.size w w' := by
  by_cases h1 : n < 20
  · exact (why_short A n c xs w hx hnc hn h1).mono fun e w' ⟨h, hb⟩ => ⟨2, h, fun _ => rfl, fun h => absurd h1 (by omega), hb⟩
  by_cases h2 : (xs.getD 0 0).toNat / 16 = 4
  · rcases parse_cases n xs hx.1 hn with ⟨k, _, _, h⟩ | ⟨_, _, h3, h4, h5, h6, h7, h8⟩
    · exact (h A c w hx hnc).2.mono fun e w' ⟨h, hb⟩ => ⟨k, h, fun h => absurd h h1, fun _ h => absurd h2 h, hb⟩
    · exact (why_ok A n c xs w hx hnc hn (by omega) h2 _ rfl h3 h4 h5 h6 h7 h8).mono fun e w' ⟨h, hb⟩ => ⟨0, h, fun h => absurd h h1, fun _ h => absurd h2 h, hb⟩
  · exact (why_version A n c xs w hx hnc hn (by omega) h2).mono fun e w' ⟨h, hb⟩ => ⟨10, h, fun h => absurd h h1, fun _ _ => rfl, hb⟩
theorem beB_beN4 (xs : List UInt8) (p : Nat) (h : p + 4 ≤ xs.length) : beB (beN xs p 4) 4 = (xs.take (p + 4)).drop p := by
  have e : ∀ i, i < xs.length → xs.getD i 0 = xs.getD i 0 := fun _ _ => rfl
  simp only [beN, Nat.zero_mul, Nat.zero_add]
  rw [be_four]
  apply List.ext_getElem
  · simp; omega
  · intro i h1 h2
    simp only [List.getElem_drop, List.getElem_take]
    have hi : i < 4 := by simpa using h1
    have hp : p + i < xs.length := by omega
    have hg : xs[p + i] = xs.getD (p + i) 0 := by simp [List.getD, hp]
    rw [hg]
    match i, hi with
    | 0, _ => rfl
    | 1, _ => rfl
    | 2, _ => rfl
    | 3, _ => rfl
end Four
end Go.Proofs.Ytniieckjooahfaa
