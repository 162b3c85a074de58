/- The document's own sum (distributaryref04.Words, Fold, Of, Check), by contract. Conditions: a slice of bytes that reads as a list, at most 2^20 bytes. -/
import Derived.Test.YtniieckjooahfaaSumPlain
import Derived.Test.YtniieckjooahfaaMem
namespace Go.Proofs.Ytniieckjooahfaa
open Go.RowKit Go.ChangeShapes Go.WideShapes Go.ChangeAt Go.Deep
namespace Sum
def wordsI (xs : List UInt8) : List Int := (words xs).map (fun n : Nat => (n : Int))
theorem wordsI_length (xs : List UInt8) : (wordsI xs).length = (xs.length + 1) / 2 := by simp [wordsI, words_length]
theorem wordsI_take (xs : List UInt8) (k : Nat) (h : 2 * k < xs.length) : (wordsI xs).take (k + 1) = (wordsI xs).take k ++ [((256 * (xs.getD (2 * k) 0).toNat + (xs.getD (2 * k + 1) 0).toNat : Nat) : Int)] := by
  have h1 := words_get xs k h
  unfold wordsI
  rw [← List.map_take, ← List.map_take, List.take_add_one, h1]
  simp
set_option maxHeartbeats 2000000 in
theorem words_any (A : Option Addr) (n c : Nat) (xs : List UInt8) (w : World) (hx : IsB w w.heap.size A n xs) (hn : n ≤ 1048576) :
    Calls Try.prog 75 #[.slice A n c] w fun e w' => ∃ v, e = .returned v ∧ OwnI w' w.heap.size v (wordsI xs) ∧ Below w.heap.size w w' := by
  go_enter Try.func75, Try.ntmps75
  go_wp2
  go_loopw [3, 4] (fun v i wr => ∃ j k : Nat, j ≤ n + 1 ∧ j = 2 * k ∧ i = .int .i64 (j : Int) ∧ OwnI wr w.heap.size v ((wordsI xs).take k) ∧ Below w.heap.size w wr) (fun _ i _ => n + 2 - (intOf i).toNat)
  case atStart => exact ⟨0, 0, by omega, rfl, rfl, by simpa using OwnI.nil w _, Below.refl _ _⟩
  case round =>
    obtain ⟨j, k, hj, hjk, rfl, hown, hb⟩ := hrel
    replace hjk := hide hjk
    have hxr := hx.below hb
    by_cases hlt : j < n
    · have hw := wordsI_take xs k (by rw [hx.1]; have := hjk.out; omega)
      have hwl : (wordsI xs).length = (n + 1) / 2 := by rw [wordsI_length, hx.1]
      have htl : ((wordsI xs).take k).length ≤ 1048576 := by rw [List.length_take, hwl]; omega
      rw [← hjk.out] at hw
      obtain ⟨b, off, v0, rfl, hbl, hv0, hv0l, hc0⟩ := hxr.byte hlt
      by_cases hlt2 : j + 1 < n
      · obtain ⟨v1, hv1, hv1l, hc1⟩ := hxr.byteAt hlt2
        rw [hv0, hv1, show ((256 * v0 + v1 : Nat) : Int) = 256 * (v0 : Int) + (v1 : Int) by omega] at hw
        replace hw := hide hw
        replace hwl := hide hwl
        replace hv0 := hide hv0
        replace hv1 := hide hv1
        go_wp2_with (at_builtin; refine wpl_lit_i rfl (.tmp 31) (.tmp 33) rfl w.heap.size _ ((wordsI xs).take k) [256 * (v0 : Int) + (v1 : Int)] _ rfl rfl ?_ ?_ ?_ ?_)
        · exact hown
        · exact hb.size
        · simp only [List.length_singleton]; omega
        intro v' w' hown' hb' _ _
        go_wp2
        exact ⟨⟨j + 2, k + 1, by omega, by have := hjk.out; omega, by go_num, by rw [hw.out]; exact hown', hb.trans hb'⟩, by simp [intOf]; omega⟩
      · have h0 : xs.getD (j + 1) 0 = 0 := by
          have := hx.1
          simp [List.getD, List.getElem?_eq_none (show xs.length ≤ j + 1 by omega)]
        rw [hv0, h0, show ((256 * v0 + (0 : UInt8).toNat : Nat) : Int) = 256 * (v0 : Int) by simp] at hw
        replace h0 := hide h0
        replace hw := hide hw
        replace hwl := hide hwl
        replace hv0 := hide hv0
        go_wp2_with (at_builtin; refine wpl_lit_i rfl (.tmp 31) (.tmp 33) rfl w.heap.size _ ((wordsI xs).take k) [256 * (v0 : Int)] _ rfl rfl ?_ ?_ ?_ ?_)
        · exact hown
        · exact hb.size
        · simp only [List.length_singleton]; omega
        intro v' w' hown' hb' _ _
        go_wp2
        exact ⟨⟨j + 2, k + 1, by omega, by have := hjk.out; omega, by go_num, by rw [hw.out]; exact hown', hb.trans hb'⟩, by simp [intOf]; omega⟩
    · have hkn : (wordsI xs).take k = wordsI xs := by rw [List.take_of_length_le]; rw [wordsI_length, hx.1]; have := hjk.out; omega
      rw [hkn] at hown
      replace hkn := hide hkn
      replace hown := hide hown
      replace hb := hide hb
      go_wp2
      go_ret
      exact ⟨_, rfl, hown.out, hb.out⟩
set_option maxHeartbeats 1000000 in
theorem refFold_any (s : Nat) (w : World) (hs : s ≤ 4611686018427387904) :
    Calls Try.prog 76 #[.int .i64 (s : Int)] w fun e w' => e = .returned (.int .i64 (ones s : Nat)) ∧ w = w' := by
  go_enter Try.func76, Try.ntmps76
  go_wp2
  go_loop [0] (fun v => ∃ t : Nat, t ≤ 4611686018427387904 ∧ ones t = ones s ∧ v = .int .i64 (t : Int)) (fun v => (intOf v).toNat)
  case atStart => exact ⟨s, hs, rfl, rfl⟩
  case round =>
    obtain ⟨t, ht, ho, rfl⟩ := hrel
    replace ho := hide ho
    by_cases hlt : 65535 < t
    · go_wp2
      refine ⟨⟨t % 65536 + t / 65536, by omega, by rw [ones_fold]; exact ho.out, by go_num⟩, by simp [intOf]; omega⟩
    · have ht' : t ≤ 65535 := by omega
      go_wp2
      go_ret
      rw [← ho.out, ones_small ht']
      exact ⟨rfl, rfl⟩
theorem sum_take (l : List Nat) (k : Nat) (h : k < l.length) : (l.take (k + 1)).sum = (l.take k).sum + l[k] := by
  rw [List.take_succ_eq_append_getElem h, List.sum_append]; simp
theorem sum_take_le (l : List Nat) : ∀ k, (∀ x ∈ l, x ≤ 65535) → (l.take k).sum ≤ 65535 * k
  | 0, _ => by simp
  | k + 1, h => by
    have h1 := sum_take_le l k h
    rcases Nat.lt_or_ge k l.length with hk | hk
    · rw [sum_take l k hk]
      have := h _ (List.getElem_mem hk)
      omega
    · rw [List.take_of_length_le (by omega)]
      rw [List.take_of_length_le hk] at h1
      omega
set_option maxHeartbeats 1000000 in
theorem refOf_any (A : Option Addr) (n c : Nat) (xs : List UInt8) (w : World) (hx : IsB w w.heap.size A n xs) (hn : n ≤ 1048576) :
    Calls Try.prog 26 #[.slice A n c] w fun e w' => e = .returned (.int .i64 (ones (tot false xs) : Nat)) ∧ Below w.heap.size w w' := by
  go_enter Try.func26, Try.ntmps26
  go_wp2_with (go_at_call 75; refine (words_any _ _ _ xs _ hx hn).mono ?_; rintro e w1 ⟨v, rfl, hown, hb⟩)
  obtain ⟨A1, c1, rfl, hc1, hm1, hi1⟩ := hown.form
  have hwl : (wordsI xs).length = (words xs).length := by simp [wordsI]
  have hlen : (words xs).length ≤ 1048576 := by rw [words_length, hx.1]; omega
  rw [hwl] at hi1 hc1 ⊢
  obtain ⟨m, hm⟩ : ∃ m, (words xs).length = m := ⟨_, rfl⟩
  rw [hm] at hi1 hc1 hlen ⊢
  replace hm := hide hm
  replace hwl := hide hwl
  clear hown hx
  replace hb := hide hb
  go_wp2
  go_loop [3, 5] (fun s i => ∃ k t : Nat, k ≤ m ∧ t ≤ 65535 * k ∧ i = .int .i64 (k : Int) ∧ s = .int .i64 (t : Int) ∧ t = ((words xs).take k).sum) (fun _ i => m - (intOf i).toNat)
  case atStart => exact ⟨0, 0, Nat.zero_le _, by omega, rfl, rfl, by simp⟩
  case round =>
    obtain ⟨k, t, hk, ht, rfl, rfl, hts⟩ := hrel
    replace hts := hide hts
    by_cases hlt : k < m
    · obtain ⟨b, off, rfl, hbl, hcs⟩ := hi1.2 (by omega)
      have hkw : k < (words xs).length := by rw [hm.out]; exact hlt
      have hcell := hcs k (by simp [wordsI, hm.out]; exact hlt)
      have hst := sum_take (words xs) k hkw
      have hle := words_le xs _ (List.getElem_mem hkw)
      simp only [wordsI, List.getElem_map] at hcell
      clear hcs
      obtain ⟨u, hu⟩ : ∃ u, (words xs)[k] = u := ⟨_, rfl⟩
      rw [hu] at hcell hst hle
      rw [← hts.out] at hst
      replace hst := hide hst
      replace hu := hide hu
      go_wp2
      exact ⟨⟨k + 1, t + u, by omega, by omega, by go_num, by go_num, by rw [hst.out]⟩, by simp [intOf]; omega⟩
    · have hfin : t = tot false xs := by
        rw [hts.out, List.take_of_length_le (by rw [hm.out]; omega), words_sum]
      replace hfin := hide hfin
      go_wp2_with (go_at_call 76; refine (refFold_any _ _ (by omega)).mono ?_; rintro e w' ⟨rfl, rfl⟩)
      go_ret
      exact ⟨ret_int (by rw [hfin.out]), hb.out⟩
theorem refCheck_any (A : Option Addr) (n c : Nat) (xs : List UInt8) (w : World) (hx : IsB w w.heap.size A n xs) (hn : n ≤ 1048576) :
    Calls Try.prog 34 #[.slice A n c] w fun e w' => e = .returned (.int .i64 (65535 - ones (tot false xs) : Nat)) ∧ Below w.heap.size w w' := by
  have hle := ones_le (tot false xs)
  go_enter Try.func34, Try.ntmps34
  go_wp2_with (go_at_call 26; refine (refOf_any _ _ _ xs _ hx hn).mono ?_; rintro e w1 ⟨rfl, hb⟩)
  go_ret
  exact ⟨ret_int (by omega), hb⟩
end Sum
end Go.Proofs.Ytniieckjooahfaa
