/- Bits of numbers that are not below 0: masks and joins that the kit does not bring. -/
import Derived.Test.YtniieckjooahfaaCore
import Derived.Laws.BitsLemmas
namespace Go.Proofs.Ytniieckjooahfaa
open Go.RowKit Go.ChangeShapes Go.WideShapes Go.ChangeAt Go.Deep
theorem wraps62 (n : Int) (h0 : 0 ≤ n) (h1 : n < 2 ^ 62) : IntKind.i64.wrap n = n := by rw [IntKind.wrap_i64]; omega
theorem wrapsu64 (n : Int) (h0 : 0 ≤ n) (h1 : n < 2 ^ 64) : IntKind.u64.wrap n = n := by
  have h := IntKind.wrap_u64 n
  rw [h]; omega
theorem i64_and1 (x : Int) (h0 : 0 ≤ x) (h1 : x < 4611686018427387904) : bits .and .i64 x 1 = x % 2 := bits_mask .i64 62 (by decide) wraps62 1 (by decide) x h0 h1
theorem i64_and8191 (x : Int) (h0 : 0 ≤ x) (h1 : x < 4611686018427387904) : bits .and .i64 x 8191 = x % 8192 := bits_mask .i64 62 (by decide) wraps62 13 (by decide) x h0 h1
theorem i64_or64 (x : Int) (h0 : 0 ≤ x) (h1 : x < 64) : bits .or .i64 64 x = 64 + x := bits_join .i64 62 (by decide) wraps62 6 64 x (by decide) (by decide) (by decide) h0 h1 (by omega)
theorem u64_or_hi (x : Int) (i : Nat) (hi : i ≤ 63) (h0 : 0 ≤ x) (h1 : x < 2 ^ i) : bits .or .u64 (2 ^ i) x = 2 ^ i + x := by
  have hp : (2 : Int) ^ i < 2 ^ 64 := by
    have h := Nat.pow_lt_pow_right (a := 2) (by omega) (show i < 64 by omega)
    exact_mod_cast h
  have hq : (0 : Int) ≤ 2 ^ i := by exact_mod_cast Nat.zero_le (2 ^ i)
  exact bits_join .u64 64 (by decide) wrapsu64 i (2 ^ i) x hq (by simp) hp h0 h1 (by omega)
theorem or_comm_bits (k : IntKind) (x y : Int) : bits .or k x y = bits .or k y x := by simp only [bits, BitVec.or_comm]
theorem u64_or16384 (x : Int) (h0 : 0 ≤ x) (h1 : x < 16384) : bits .or .u64 x 16384 = x + 16384 := by
  rw [or_comm_bits, show (16384 : Int) = 2 ^ 14 by rfl, u64_or_hi x 14 (by omega) h0 h1]
  omega
theorem u64_or8192 (x : Int) (h0 : 0 ≤ x) (h1 : x < 8192) : bits .or .u64 x 8192 = x + 8192 := by
  rw [or_comm_bits, show (8192 : Int) = 2 ^ 13 by rfl, u64_or_hi x 13 (by omega) h0 h1]
  omega
theorem u64_or8192' (x : Int) (h0 : 0 ≤ x) (h1 : x < 8192) : bits .or .u64 (x + 16384) 8192 = x + 16384 + 8192 := by
  rw [← u64_or16384 x h0 (by omega)]
  have h : bits .or .u64 (bits .or .u64 x 16384) 8192 = bits .or .u64 x 24576 := by
    have e : bits .or .u64 16384 8192 = 24576 := by decide
    obtain ⟨a, rfl⟩ := Int.eq_ofNat_of_zero_le h0
    have ha : a < 18446744073709551616 := by omega
    rw [show (16384 : Int) = ((16384 : Nat) : Int) by rfl, show (8192 : Int) = ((8192 : Nat) : Int) by rfl, show (24576 : Int) = ((24576 : Nat) : Int) by rfl]
    have b1 := (bits_nat .u64 64 (by decide) wrapsu64 a 16384 ha (by omega)).2
    have hlt : a ||| 16384 < 2 ^ 64 := Nat.or_lt_two_pow ha (by omega)
    rw [b1, (bits_nat .u64 64 (by decide) wrapsu64 (a ||| 16384) 8192 hlt (by omega)).2, (bits_nat .u64 64 (by decide) wrapsu64 a 24576 ha (by omega)).2, Nat.or_assoc]
    rfl
  rw [h]
  have j := bits_join .u64 64 (by decide) wrapsu64 13 24576 x (by decide) (by decide) (by decide) h0 (by omega) (by omega)
  rw [or_comm_bits, j, u64_or16384 x h0 (by omega)]
  omega
end Go.Proofs.Ytniieckjooahfaa
