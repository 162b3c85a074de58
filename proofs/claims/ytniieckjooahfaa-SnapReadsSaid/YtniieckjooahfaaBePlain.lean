/- Plain facts on bytes that are put and read again, and on the check among them. No condition. -/
import Derived.Test.YtniieckjooahfaaPut
import Derived.Test.YtniieckjooahfaaSet
import Derived.Test.YtniieckjooahfaaSumPlain
namespace Go.Proofs.Ytniieckjooahfaa
theorem beB_getD (N : Nat) : ∀ (k j : Nat), j < k → (beB N k).getD j 0 = UInt8.ofNat (N / 256 ^ (k - 1 - j))
  | 0, j, h => by omega
  | k + 1, 0, _ => by simp [beB]
  | k + 1, j + 1, h => by
    simp only [beB, List.getD_cons_succ]
    rw [beB_getD N k j (by omega), show k + 1 - 1 - (j + 1) = k - 1 - j by omega]
theorem getD_mid (pre mid post : List UInt8) (j : Nat) (h : j < mid.length) : (pre ++ (mid ++ post)).getD (pre.length + j) 0 = mid.getD j 0 := by
  simp only [List.getD]
  rw [List.getElem?_append_right (by omega), show pre.length + j - pre.length = j by omega, List.getElem?_append_left h]
theorem beN_mid (N k : Nat) (pre post : List UInt8) (p : Nat) (hp : pre.length = p) : ∀ j, j ≤ k → beN (pre ++ (beB N k ++ post)) p j = N / 256 ^ (k - j) % 256 ^ j
  | 0, _ => by simp [beN, Nat.mod_one]
  | j + 1, h => by
    subst hp
    have ih := beN_mid N k pre post pre.length rfl j (by omega)
    rw [beN, ih, getD_mid _ _ _ _ (by rw [beB_length]; omega), beB_getD _ _ _ (by omega), UInt8.toNat_ofNat']
    rw [show k - 1 - j = k - (j + 1) by omega]
    have e1 : N / 256 ^ (k - j) = N / 256 ^ (k - (j + 1)) / 256 := by
      rw [show k - j = (k - (j + 1)) + 1 by omega, Nat.pow_succ, Nat.div_div_eq_div_mul]
    rw [e1]
    generalize N / 256 ^ (k - (j + 1)) = M
    rw [show 256 ^ (j + 1) = 256 * 256 ^ j by rw [Nat.pow_succ, Nat.mul_comm], Nat.mod_mul]
    omega
theorem beN_put (N k : Nat) (pre post : List UInt8) (p : Nat) (hp : pre.length = p) (hN : N < 256 ^ k) : beN (pre ++ (beB N k ++ post)) p k = N := by
  rw [beN_mid N k pre post p hp k (Nat.le_refl _)]
  simp [Nat.mod_eq_of_lt hN]
namespace Sum
theorem ones_check (T : Nat) : ones (T + (65535 - ones T)) = 65535 := by
  unfold ones
  split
  · rename_i h0
    subst h0
    rfl
  · have h1 : (T - 1) % 65535 < 65535 := Nat.mod_lt _ (by omega)
    have h2 : T + (65535 - ((T - 1) % 65535 + 1)) ≠ 0 := by omega
    rw [if_neg h2]
    omega
theorem tot_two (c : Nat) (hc : c ≤ 65535) : tot false (beB c 2) = c := by
  simp only [beB, tot, UInt8.toNat_ofNat']
  simp
  omega
/-- The sum behind a check that is set where two zeros stood, at an even place. -/
theorem tot_set (pre xs : List UInt8) (p c : Nat) (hc : c ≤ 65535) (hp : p + 2 ≤ xs.length) (h0 : (xs.drop p).take 2 = [0, 0]) (he : (pre.length + p) % 2 = 0) : tot false (pre ++ setB xs p (beB c 2)) = tot false (pre ++ xs) + c := by
  have hx : xs = xs.take p ++ ([0, 0] ++ xs.drop (p + 2)) := by
    rw [← h0, ← List.drop_drop, List.take_append_drop, List.take_append_drop]
  have hl : (xs.take p).length = p := by rw [List.length_take]; omega
  conv => rhs; rw [hx]
  unfold setB
  rw [beB_length]
  have hpar : (false ^^ decide (pre.length % 2 = 1) ^^ decide ((xs.take p).length % 2 = 1)) = false := by
    rw [hl]
    by_cases h1 : pre.length % 2 = 1 <;> by_cases h2 : p % 2 = 1 <;> simp [h1, h2] <;> omega
  rw [tot_append, tot_append, tot_append, tot_append, tot_append, tot_append, hpar, tot_two c hc]
  have e2 : tot false ([0, 0] : List UInt8) = 0 := by simp [tot]
  rw [e2, beB_length]
  simp only [List.length_cons, List.length_nil, Nat.zero_add, Nat.reduceAdd]
  omega
end Sum
end Go.Proofs.Ytniieckjooahfaa
