/- octet.At: the number of so many bytes at a place of a slice of bytes. Conditions: the place from 0 on and below 2^62, at most 8 bytes. -/
import Derived.Test.YtniieckjooahfaaBytes
import Derived.Test.YtniieckjooahfaaProg
namespace Go.Proofs.Ytniieckjooahfaa
open Go.RowKit Go.ChangeShapes Go.WideShapes Go.ChangeAt Go.Deep
namespace Octet
theorem pow_le (k : Nat) (h : k ≤ 7) : 256 ^ k ≤ 72057594037927936 := by
  have : 256 ^ k ≤ 256 ^ 7 := Nat.pow_le_pow_right (by omega) h
  omega
theorem beN_bd (xs : List UInt8) (p k : Nat) (h : k ≤ 7) : beN xs p k < 72057594037927936 := by
  have h1 := beN_lt xs p k
  have h2 := pow_le k h
  omega
theorem beN_bd8 (xs : List UInt8) (p k : Nat) (h : k ≤ 8) : beN xs p k < 18446744073709551616 := by
  have h1 := beN_lt xs p k
  have : 256 ^ k ≤ 256 ^ 8 := Nat.pow_le_pow_right (by omega) h
  omega
set_option maxHeartbeats 1000000 in
theorem at_any (A : Option Addr) (n c : Nat) (xs : List UInt8) (p k : Nat) (w : World) (hx : IsB w w.heap.size A n xs) (hn : n ≤ maxLen) (hp : p ≤ 4611686018427387904) (hk : k ≤ 8) :
    Calls Try.prog 73 #[.slice A n c, .int .i64 (p : Int), .int .i64 (k : Int)] w fun e w' => e = .returned (.int .u64 (beN xs p k : Nat)) ∧ w = w' := by
  unfold maxLen at hn
  go_enter Try.func73, Try.ntmps73
  go_wp2
  go_loop [7, 13] (fun m i => ∃ j : Nat, j ≤ k ∧ i = .int .i64 (j : Int) ∧ m = .int .u64 (beN xs p j : Nat)) (fun _ i => k - (intOf i).toNat)
  case atStart => exact ⟨0, Nat.zero_le _, rfl, rfl⟩
  case round =>
    obtain ⟨j, hj, rfl, rfl⟩ := hrel
    by_cases hlt : j < k
    · have hb := beN_bd xs p j (by omega)
      by_cases hin : p + j < n
      · obtain ⟨b, off, v, rfl, hbl, hv, hv255, hcell⟩ := hx.byte hin
        replace hv := hide hv
        go_wp2
        refine ⟨⟨j + 1, by omega, by go_num, ?_⟩, by simp [intOf]; omega⟩
        rw [u64_or_byte _ _ hb hv255, beN, hv.out]
      · have h0 : xs.getD (p + j) 0 = 0 := by
          have := hx.1
          simp [List.getD, List.getElem?_eq_none (show xs.length ≤ p + j by omega)]
        replace h0 := hide h0
        go_wp2
        refine ⟨⟨j + 1, by omega, by go_num, ?_⟩, by simp [intOf]; omega⟩
        rw [beN, h0.out]
        simp
    · obtain rfl : j = k := by omega
      go_wp2
      go_ret
      exact ⟨rfl, rfl⟩
/-- .. the place and the number of bytes as the walk spells them. -/
theorem at_lit (pi ki : Int) (p k : Nat) (hpi : pi = (p : Int)) (hki : ki = (k : Int)) (A : Option Addr) (n c : Nat) (xs : List UInt8) (w : World) (hx : IsB w w.heap.size A n xs) (hn : n ≤ maxLen) (hp : p ≤ 4611686018427387904) (hk : k ≤ 8) :
    Calls Try.prog 73 #[.slice A n c, .int .i64 pi, .int .i64 ki] w fun e w' => e = .returned (.int .u64 (beN xs p k : Nat)) ∧ w = w' := by
  subst hpi hki
  exact at_any A n c xs p k w hx hn hp hk
end Octet
end Go.Proofs.Ytniieckjooahfaa
