/- The document's own sum (distributaryref04.Words, Fold, Of, Check), by contract. Conditions: a slice of bytes that reads as a list, at most 2^20 bytes. -/
import Derived.Test.YtdmgbngdpjcliaaSumPlain
import Derived.Test.YtdmgbngdpjcliaaMem
namespace Go.Proofs.Ytdmgbngdpjcliaa
open Go.RowKit Go.ChangeShapes Go.WideShapes Go.ChangeAt Go.Deep
namespace Sum
def wordsI (xs : List UInt8) : List Int := (words xs).map (fun n : Nat => (n : Int))
theorem wordsI_length (xs : List UInt8) : (wordsI xs).length = (xs.length + 1) / 2 := by simp [wordsI, words_length]
theorem wordsI_take (xs : List UInt8) (k : Nat) (h : 2 * k < xs.length) : (wordsI xs).take (k + 1) = (wordsI xs).take k ++ [((256 * (xs.getD (2 * k) 0).toNat + (xs.getD (2 * k + 1) 0).toNat : Nat) : Int)] := by
  have h1 := words_get xs k h
  unfold wordsI
  rw [← List.map_take, ← List.map_take, List.take_add_one, h1]
  simp
theorem sum_take (l : List Nat) (k : Nat) (h : k < l.length) : (l.take (k + 1)).sum = (l.take k).sum + l[k] := by
  rw [List.take_succ_eq_append_getElem h, List.sum_append]; simp
theorem sum_take_le (l : List Nat) : ∀ k, (∀ x ∈ l, x ≤ 65535) → (l.take k).sum ≤ 65535 * k
  | 0, _ => by simp
  | k + 1, h => by
    have h1 := sum_take_le l k h
    rcases Nat.lt_or_ge k l.length with hk | hk
    · rw [sum_take l k hk]
      have := h _ (List.getElem_mem hk)
      omega
    · rw [List.take_of_length_le (by omega)]
      rw [List.take_of_length_le hk] at h1
      omega
end Sum
end Go.Proofs.Ytdmgbngdpjcliaa
