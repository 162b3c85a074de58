/- Plain numbers: the sum of bytes two by two with the carries added again, however it is reckoned. No condition. -/
import Derived.Test.YtniieckjooahfaaBytes
namespace Go.Proofs.Ytniieckjooahfaa
namespace Sum
/-- A number with all above 16 bits added again. -/
def ones (n : Nat) : Nat := if n = 0 then 0 else (n - 1) % 65535 + 1
/-- The bytes, two by two, the first one the higher. -/
def tot : Bool → List UInt8 → Nat
  | _, [] => 0
  | o, c :: l => (if o then c.toNat else 256 * c.toNat) + tot (!o) l
def stepS (s : Nat × Bool) (c : UInt8) : Nat × Bool :=
  ((s.1 + (if s.2 then c.toNat else 256 * c.toNat)) % 65536 + (s.1 + (if s.2 then c.toNat else 256 * c.toNat)) / 65536, !s.2)
def runS (s : Nat × Bool) (l : List UInt8) : Nat × Bool := l.foldl stepS s

theorem ones_congr {a b : Nat} (h : a % 65535 = b % 65535) (h0 : a = 0 ↔ b = 0) : ones a = ones b := by unfold ones; split <;> split <;> omega
theorem ones_small {a : Nat} (h : a ≤ 65535) : ones a = a := by unfold ones; split <;> omega
theorem ones_le (a : Nat) : ones a ≤ 65535 := by unfold ones; split <;> omega
theorem ones_fold (a : Nat) : ones (a % 65536 + a / 65536) = ones a := ones_congr (by omega) (by omega)
theorem fold_lt {a : Nat} (h : 65535 < a) : a % 65536 + a / 65536 < a := by omega
theorem stepS_le (s : Nat × Bool) (c : UInt8) (h : s.1 ≤ 65536) : (stepS s c).1 ≤ 65536 := by
  have := c.toNat_lt
  unfold stepS; dsimp only; split <;> omega
theorem runS_le (l : List UInt8) : ∀ s : Nat × Bool, s.1 ≤ 65536 → (runS s l).1 ≤ 65536 := by
  induction l with
  | nil => intro s h; exact h
  | cons c l ih => intro s h; exact ih _ (stepS_le s c h)
theorem runS_tot (l : List UInt8) : ∀ s : Nat × Bool, (runS s l).1 % 65535 = (s.1 + tot s.2 l) % 65535 ∧ ((runS s l).1 = 0 ↔ s.1 + tot s.2 l = 0) := by
  induction l with
  | nil => intro s; simp [runS, tot]
  | cons c l ih =>
    intro s
    have h := ih (stepS s c)
    show ((runS (stepS s c) l).1 % 65535 = _) ∧ ((runS (stepS s c) l).1 = 0 ↔ _)
    obtain ⟨s1, s2⟩ := s
    cases s2 <;> simp only [stepS, tot, Bool.not_false, Bool.not_true, if_true, Bool.false_eq_true, if_false] at h ⊢ <;> omega
theorem ones_run (l : List UInt8) : ones (runS (0, false) l).1 = ones (tot false l) := by
  have h := runS_tot l (0, false)
  simp only [Nat.zero_add] at h
  exact ones_congr h.1 h.2
theorem runS_append (s : Nat × Bool) (a b : List UInt8) : runS s (a ++ b) = runS (runS s a) b := List.foldl_append ..
theorem runS_take (s : Nat × Bool) (l : List UInt8) (j : Nat) (h : j < l.length) : runS s (l.take (j + 1)) = stepS (runS s (l.take j)) l[j] := by
  rw [List.take_succ_eq_append_getElem h, runS_append]; rfl
theorem runS_snd (l : List UInt8) : ∀ s : Nat × Bool, (runS s l).2 = (s.2 ^^ decide (l.length % 2 = 1)) := by
  induction l with
  | nil => intro s; simp [runS]
  | cons c l ih =>
    intro s
    show (runS (stepS s c) l).2 = _
    rw [ih]
    have e : decide ((c :: l).length % 2 = 1) = !decide (l.length % 2 = 1) := by
      simp only [List.length_cons]
      by_cases h : l.length % 2 = 1
      · have : ¬ (l.length + 1) % 2 = 1 := by omega
        simp [h, this]
      · have : (l.length + 1) % 2 = 1 := by omega
        simp [h, this]
    rw [e]
    simp [stepS]
theorem tot_append (a b : List UInt8) : ∀ o : Bool, tot o (a ++ b) = tot o a + tot (o ^^ decide (a.length % 2 = 1)) b := by
  induction a with
  | nil => intro o; simp [tot]
  | cons c a ih =>
    intro o
    simp only [List.cons_append, tot, ih, Nat.add_assoc]
    have e : (!o ^^ decide (a.length % 2 = 1)) = (o ^^ decide ((c :: a).length % 2 = 1)) := by
      simp only [List.length_cons]
      by_cases h : a.length % 2 = 1
      · have : ¬ (a.length + 1) % 2 = 1 := by omega
        simp [h, this]
      · have : (a.length + 1) % 2 = 1 := by omega
        simp [h, this]
    rw [e]
theorem tot_le (l : List UInt8) : ∀ o, tot o l ≤ 65280 * l.length := by
  induction l with
  | nil => intro o; simp [tot]
  | cons c l ih =>
    intro o
    have := ih (!o)
    have hc := c.toNat_lt
    simp only [tot, List.length_cons]
    split <;> omega
/-- The words of bytes. -/
def words : List UInt8 → List Nat
  | [] => []
  | [a] => [256 * a.toNat]
  | a :: b :: l => (256 * a.toNat + b.toNat) :: words l
theorem words_sum : ∀ l : List UInt8, (words l).sum = tot false l
  | [] => rfl
  | [a] => by simp [words, tot]
  | a :: b :: l => by simp [words, tot, words_sum l]; omega
theorem words_length : ∀ l : List UInt8, (words l).length = (l.length + 1) / 2
  | [] => rfl
  | [a] => by simp [words]
  | a :: b :: l => by simp [words, words_length l]; omega
theorem words_le : ∀ (l : List UInt8), ∀ x ∈ words l, x ≤ 65535
  | [] => by simp [words]
  | [a] => by have := a.toNat_lt; simp [words]; omega
  | a :: b :: l => by
    have := a.toNat_lt
    have := b.toNat_lt
    intro x hx
    simp only [words, List.mem_cons] at hx
    rcases hx with rfl | hx
    · omega
    · exact words_le l x hx
theorem words_get : ∀ (l : List UInt8) (j : Nat), 2 * j < l.length → (words l)[j]? = some (256 * (l.getD (2 * j) 0).toNat + (l.getD (2 * j + 1) 0).toNat)
  | [], j, h => by simp at h
  | [a], j, h => by
    obtain rfl : j = 0 := by simp at h; omega
    simp [words]
  | a :: b :: l, 0, _ => by simp [words]
  | a :: b :: l, j + 1, h => by
    have := words_get l j (by simp at h; omega)
    simp only [words, List.getElem?_cons_succ, this]
    simp [show 2 * (j + 1) = 2 * j + 1 + 1 by omega]
end Sum
end Go.Proofs.Ytniieckjooahfaa
