/- Plain: bytes, made again of the number that was read of them. No condition. -/
import Derived.Test.YtniieckjooahfaaPut
namespace Go.Proofs.Ytniieckjooahfaa
theorem of8m {a b : Nat} (h : a % 256 = b % 256) : UInt8.ofNat a = UInt8.ofNat b := by
  apply UInt8.toNat.inj
  rw [UInt8.toNat_ofNat', UInt8.toNat_ofNat']
  omega
theorem beB_snocM (a b : Nat) (hb : b < 256) : ∀ k, beB (a * 256 + b) (k + 1) = beB a k ++ [UInt8.ofNat b]
  | 0 => by
    simp only [beB, List.nil_append, Nat.pow_zero, Nat.div_one]
    rw [of8m (show (a * 256 + b) % 256 = b % 256 by omega)]
  | k + 1 => by
    have ih := beB_snocM a b hb k
    rw [beB, ih, beB, List.cons_append]
    congr 2
    rw [Nat.pow_succ, Nat.mul_comm (256 ^ k) 256, ← Nat.div_div_eq_div_mul]
    congr 1
    omega
theorem beB_beNM (xs : List UInt8) (p : Nat) : ∀ k, p + k ≤ xs.length → beB (beN xs p k) k = (xs.drop p).take k
  | 0, _ => by simp [beB]
  | k + 1, h => by
    have ih := beB_beNM xs p k (by omega)
    have hlt := (xs.getD (p + k) 0).toNat_lt
    rw [beN, beB_snocM _ _ (by omega), ih, List.take_add_one, List.getElem?_drop]
    congr 1
    have h1 : xs[p + k]? = some xs[p + k] := List.getElem?_eq_getElem (by omega)
    simp [List.getD, h1]
end Go.Proofs.Ytniieckjooahfaa
