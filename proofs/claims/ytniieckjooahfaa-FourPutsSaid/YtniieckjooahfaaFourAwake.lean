/- The example of layer 8's statements is awake. No condition. And what four.Parse and the law's 'why' say of any bytes, together. Conditions: at most 300 bytes. -/
import Derived.Test.YtniieckjooahfaaFourBytes
import Derived.Test.YtniieckjooahfaaFourWhy
namespace Go.Proofs.Ytniieckjooahfaa
open Go.RowKit Go.ChangeShapes Go.WideShapes Go.ChangeAt Go.Deep
namespace Four
theorem hdB_head (tos id fl ttl proto slo dlo : Nat) (os : List UInt8) (pl : Nat) : (hdB tos id fl ttl proto slo dlo os pl).getD 0 0 = UInt8.ofNat (64 + (20 + os.length) / 4) := by
  unfold hdB setB hdB0
  simp
set_option maxRecDepth 4000 in
set_option maxHeartbeats 2000000 in
theorem awake_any (w : World) : Calls Try.prog 48 #[] w fun e w' => e = .returned (.bool true) ∧ Below w.heap.size w w' := by
  go_enter Try.func48, Try.ntmps48
  go_wp2_with fail
  refine (bytes_yes 0 0 false false 0 9 0 0 0 0 rfl none 0 0 [] none 0 0 [] _ (by omega) (by omega) (by omega) (by omega) (by omega) (by omega) (by omega) (by omega) (by omega) (IsB.nil _ _ _) (IsB.nil _ _ _) (by omega)).mono ?_
  rintro e w1 ⟨v, rfl, hown, hb⟩
  have hl : (hdB 0 0 0 9 0 0 0 [] 0 ++ []).length = 20 := by rw [List.length_append, hdB_length]; rfl
  obtain ⟨A, c, rfl, hc, _, hi⟩ := hown.form
  rw [hl] at hi hc ⊢
  obtain ⟨b, off, v0, rfl, _, hv0, _, hc0⟩ := hi.byte (i := 0) (by omega)
  rw [List.append_nil, hdB_head] at hv0
  obtain rfl : v0 = 69 := by rw [← hv0]; decide
  rw [Nat.add_zero] at hc0
  have k0 : (0 : Int) < ((20 : Nat) : Int) := by omega
  clear hown hi hl hv0
  replace hb := hide hb
  go_wp2_with fail
  go_ret
  exact ⟨by simp, hb.out⟩
/-- What four.Parse and the law say of bytes. -/
theorem parse_cases (n : Nat) (xs : List UInt8) (hxl : xs.length = n) (hn : n ≤ 300) :
    (∃ k : Nat, 0 < k ∧ k < 100 ∧ ∀ (A : Option Addr) (c : Nat) (w : World), IsB w w.heap.size A n xs → n ≤ c →
      Calls Try.prog 45 #[.slice A n c] w (fun e w' => e = .returned (.tuple #[hd0, .slice none 0 0, .int .i64 (k : Int)]) ∧ Below w.heap.size w w') ∧
      Calls Try.prog 46 #[.slice A n c] w (fun e w' => e = .returned (.int .i64 (k : Int)) ∧ Below w.heap.size w w')) ∨
    (20 ≤ n ∧ (xs.getD 0 0).toNat / 16 = 4 ∧ 20 ≤ (xs.getD 0 0).toNat % 16 * 4 ∧ (xs.getD 0 0).toNat % 16 * 4 ≤ n ∧ beN xs 6 2 / 32768 = 0 ∧ (xs.getD 0 0).toNat % 16 * 4 ≤ beN xs 2 2 ∧ beN xs 2 2 ≤ n ∧ Sum.ones (Sum.tot false (xs.take ((xs.getD 0 0).toNat % 16 * 4))) = 65535) := by
  by_cases h1 : n < 20
  · exact .inl ⟨2, by omega, by omega, fun A c w hx hc => ⟨parse_short A n c xs w hx hc (by omega) h1, why_short A n c xs w hx hc hn h1⟩⟩
  by_cases h2 : (xs.getD 0 0).toNat / 16 = 4
  case neg =>
    exact .inl ⟨10, by omega, by omega, fun A c w hx hc => ⟨parse_version A n c xs w hx hc (by omega) (by omega) h2, why_version A n c xs w hx hc hn (by omega) h2⟩⟩
  obtain ⟨s, hs⟩ : ∃ s, (xs.getD 0 0).toNat % 16 * 4 = s := ⟨_, rfl⟩
  rw [hs]
  by_cases h3 : s < 20
  · exact .inl ⟨11, by omega, by omega, fun A c w hx hc => ⟨parse_header1 A n c xs w hx hc (by omega) (by omega) h2 s hs h3, why_header1 A n c xs w hx hc hn (by omega) h2 s hs h3⟩⟩
  by_cases h4 : n < s
  · exact .inl ⟨11, by omega, by omega, fun A c w hx hc => ⟨parse_header2 A n c xs w hx hc (by omega) (by omega) h2 s hs (by omega) h4, why_header2 A n c xs w hx hc hn (by omega) h2 s hs (by omega) h4⟩⟩
  by_cases h5 : beN xs 6 2 / 32768 = 0
  case neg =>
    exact .inl ⟨11, by omega, by omega, fun A c w hx hc => ⟨parse_header3 A n c xs w hx hc (by omega) (by omega) h2 s hs (by omega) (by omega) h5, why_header3 A n c xs w hx hc hn (by omega) h2 s hs (by omega) (by omega) h5⟩⟩
  by_cases h6 : beN xs 2 2 < s
  · exact .inl ⟨12, by omega, by omega, fun A c w hx hc => ⟨parse_length1 A n c xs w hx hc (by omega) (by omega) h2 s hs (by omega) (by omega) h5 h6, why_length1 A n c xs w hx hc hn (by omega) h2 s hs (by omega) (by omega) h5 h6⟩⟩
  by_cases h7 : n < beN xs 2 2
  · exact .inl ⟨12, by omega, by omega, fun A c w hx hc => ⟨parse_length2 A n c xs w hx hc (by omega) (by omega) h2 s hs (by omega) (by omega) h5 (by omega) h7, why_length2 A n c xs w hx hc hn (by omega) h2 s hs (by omega) (by omega) h5 (by omega) h7⟩⟩
  by_cases h8 : Sum.ones (Sum.tot false (xs.take s)) = 65535
  case neg =>
    exact .inl ⟨13, by omega, by omega, fun A c w hx hc => ⟨parse_sum A n c xs w hx hc (by omega) (by omega) h2 s hs (by omega) (by omega) h5 (by omega) (by omega) h8, why_sum A n c xs w hx hc hn (by omega) h2 s hs (by omega) (by omega) h5 (by omega) (by omega) h8⟩⟩
  exact .inr ⟨by omega, h2, by omega, by omega, h5, by omega, by omega, h8⟩
end Four
end Go.Proofs.Ytniieckjooahfaa
