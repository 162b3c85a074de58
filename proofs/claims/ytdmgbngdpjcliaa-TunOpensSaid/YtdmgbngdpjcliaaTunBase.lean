/- What four.Parse and six.Parse make of bytes, wherever they lie: the same. Conditions: slices of bytes that read as lists, sizes below 2^40. -/
import Derived.Test.YtdmgbngdpjcliaaFourParse
import Derived.Test.YtdmgbngdpjcliaaSixAgain
namespace Go.Proofs.Ytdmgbngdpjcliaa
open Go.RowKit Go.ChangeShapes Go.WideShapes Go.ChangeAt Go.Deep
namespace Tun
/-- four.Parse, wherever the bytes lie. -/
def FourIs (n : Nat) (xs : List UInt8) (K tos id : Nat) (df mf : Bool) (frag ttl proto slo dlo n1 m1 : Nat) (rest : List UInt8) : Prop :=
  ∀ (A : Option Addr) (c : Nat) (W : World), IsB W W.heap.size A n xs → n ≤ c → c ≤ maxLen → Calls Try.prog 27 #[.slice A n c] W fun e w' => ∃ A1 c1 A2 c2,
    e = .returned (.tuple #[Four.hdV tos id df mf frag ttl proto false 0 slo false 0 dlo A1 n1 c1, .slice A2 m1 c2, .int .i64 (K : Int)]) ∧ IsB w' w'.heap.size A2 m1 rest ∧ m1 ≤ c2 ∧ c2 ≤ maxLen ∧ Below W.heap.size W w'
theorem four_bad {n : Nat} {xs : List UInt8} (K : Nat) (h : ∀ (A : Option Addr) (c : Nat) (W : World), IsB W W.heap.size A n xs → n ≤ c → Calls Try.prog 27 #[.slice A n c] W fun e w' => e = .returned (.tuple #[Four.hd0, .slice none 0 0, .int .i64 (K : Int)]) ∧ Below W.heap.size W w') :
    FourIs n xs K 0 0 false false 0 0 0 0 0 0 0 [] := fun A c W hx hc _ => (h A c W hx hc).mono fun _ w' ⟨he, hb⟩ => ⟨none, 0, none, 0, he, IsB.nil _ _ _, by omega, by unfold maxLen; omega, hb⟩
/-- What it makes of them: why nothing, or a header and what is behind it. -/
theorem four_is (n : Nat) (xs : List UInt8) (hxl : xs.length = n) (hnm : n ≤ 1099511627776) :
    (∃ K, K ≠ 0 ∧ K ≤ 20 ∧ FourIs n xs K 0 0 false false 0 0 0 0 0 0 0 []) ∨
    ∃ (tos id : Nat) (df mf : Bool) (frag ttl proto slo dlo n1 m1 : Nat) (rest : List UInt8), 20 + n1 + m1 ≤ n ∧ n1 ≤ 40 ∧ ttl ≤ 255 ∧ proto ≤ 255 ∧ frag ≤ 8191 ∧ slo < 4294967296 ∧ dlo < 4294967296 ∧ FourIs n xs 0 tos id df mf frag ttl proto slo dlo n1 m1 rest := by
  by_cases h1 : n < 20
  · exact .inl ⟨2, by omega, by omega, four_bad 2 fun A c w hx hc => Four.parse_short A n c xs w hx hc hnm h1⟩
  by_cases h2 : (xs.getD 0 0).toNat / 16 = 4
  case neg => exact .inl ⟨10, by omega, by omega, four_bad 10 fun A c w hx hc => Four.parse_version A n c xs w hx hc hnm (by omega) h2⟩
  obtain ⟨s, hs⟩ : ∃ s, (xs.getD 0 0).toNat % 16 * 4 = s := ⟨_, rfl⟩
  by_cases h3 : s < 20
  · exact .inl ⟨11, by omega, by omega, four_bad 11 fun A c w hx hc => Four.parse_header1 A n c xs w hx hc hnm (by omega) h2 s hs h3⟩
  by_cases h4 : n < s
  · exact .inl ⟨11, by omega, by omega, four_bad 11 fun A c w hx hc => Four.parse_header2 A n c xs w hx hc hnm (by omega) h2 s hs (by omega) h4⟩
  by_cases h5 : beN xs 6 2 / 32768 = 0
  case neg => exact .inl ⟨11, by omega, by omega, four_bad 11 fun A c w hx hc => Four.parse_header3 A n c xs w hx hc hnm (by omega) h2 s hs (by omega) (by omega) h5⟩
  by_cases h6 : beN xs 2 2 < s
  · exact .inl ⟨12, by omega, by omega, four_bad 12 fun A c w hx hc => Four.parse_length1 A n c xs w hx hc hnm (by omega) h2 s hs (by omega) (by omega) h5 h6⟩
  by_cases h7 : n < beN xs 2 2
  · exact .inl ⟨12, by omega, by omega, four_bad 12 fun A c w hx hc => Four.parse_length2 A n c xs w hx hc hnm (by omega) h2 s hs (by omega) (by omega) h5 (by omega) h7⟩
  by_cases h8 : Sum.ones (Sum.tot false (xs.take s)) = 65535
  case neg => exact .inl ⟨13, by omega, by omega, four_bad 13 fun A c w hx hc => Four.parse_sum A n c xs w hx hc hnm (by omega) h2 s hs (by omega) (by omega) h5 (by omega) (by omega) h8⟩
  have g1 := (xs.getD 0 0).toNat_lt
  have g2 := (xs.getD 8 0).toNat_lt
  have g3 := (xs.getD 9 0).toNat_lt
  refine .inr ⟨(xs.getD 1 0).toNat, beN xs 4 2, decide (beN xs 6 2 / 16384 % 2 = 1), decide (beN xs 6 2 / 8192 % 2 = 1), beN xs 6 2 % 8192, (xs.getD 8 0).toNat, (xs.getD 9 0).toNat, beN xs 12 4, beN xs 16 4, s - 20, beN xs 2 2 - s, (xs.take (beN xs 2 2)).drop s, by omega, by omega, by omega, by omega, by omega, beN_lt xs 12 4, beN_lt xs 16 4, ?_⟩
  intro A c W hx hc _
  refine (Four.parse_ok A n c xs W hx hc hnm (by omega) h2 s hs (by omega) (by omega) h5 (by omega) (by omega) h8).mono ?_
  rintro e w' ⟨A1, c1, A2, c2, rfl, _, _, _, i4, i5⟩
  obtain ⟨_, r1, r2, r3⟩ := i4.reads
  exact ⟨A1, c1, A2, c2, rfl, r3, r1, r2, i5⟩
/-- six.Parse, wherever the bytes lie. -/
def SixIs (n : Nat) (xs : List UInt8) (K : Nat) (cl la ho : Int) (b1 : Bool) (sh sl : Int) (b2 : Bool) (dh dl : Int) (acc : List (Int × List UInt8)) (nx m1 : Nat) (rest : List UInt8) : Prop :=
  ∀ (A : Option Addr) (c : Nat) (W : World), IsB W W.heap.size A n xs → n ≤ c → c ≤ maxLen → Calls Try.prog 12 #[.slice A n c] W fun e w' => ∃ X m xc A2 c2 es,
    e = .returned (.tuple #[Six.hdV cl la ho b1 sh sl b2 dh dl X m xc nx, .slice A2 m1 c2, .int .i64 (K : Int)]) ∧ Six.pes es = acc ∧ Six.IsX w' w'.heap.size X m es ∧ m ≤ xc ∧ xc ≤ maxLen ∧ IsB w' w'.heap.size A2 m1 rest ∧ m1 ≤ c2 ∧ c2 ≤ maxLen ∧ Below W.heap.size W w'
theorem six_is (n : Nat) (xs : List UInt8) (hxl : xs.length = n) (hnm : n ≤ 1099511627776) :
    (∃ K, K ≠ 0 ∧ K ≤ 20 ∧ SixIs n xs K 0 0 0 false 0 0 false 0 0 [] 0 0 []) ∨
    ∃ (cl la ho sh sl dh dl : Nat) (acc : List (Int × List UInt8)) (nx m1 : Nat) (rest : List UInt8), ho ≤ 255 ∧ nx ≤ 255 ∧ acc.length ≤ 8 ∧ (∀ e ∈ acc, e.2.length ≤ 2047) ∧ 40 + Six.sumP acc + m1 ≤ n ∧ sh < 18446744073709551616 ∧ sl < 18446744073709551616 ∧ dh < 18446744073709551616 ∧ dl < 18446744073709551616 ∧ SixIs n xs 0 cl la ho true sh sl true dh dl acc nx m1 rest := by
  have hp := fun (A : Option Addr) (c : Nat) (W : World) (h : IsB W W.heap.size A n xs) (hc : n ≤ c) (hcm : c ≤ maxLen) => Six.parse_any A n c xs W h hc hcm hnm _ _ _ _ _ _ _ rfl rfl rfl rfl rfl rfl rfl
  by_cases hk : Six.parseK n xs = 0
  · right
    rcases hR : Six.parseR xs with _ | ⟨acc, nx, rest⟩
    · exfalso
      unfold Six.parseK at hk
      unfold Six.parseR at hR
      rw [hR] at hk
      simp only [Option.isNone_none, if_true] at hk
      split at hk
      · omega
      · split at hk
        · omega
        · split at hk <;> omega
    · have hk2 := hk
      unfold Six.parseK at hk2
      have h40 : 40 ≤ n := by
        by_cases h : n < 40
        · rw [if_pos h] at hk2; omega
        · omega
      rw [if_neg (show ¬ n < 40 by omega)] at hk2
      have hv : (xs.getD 0 0).toNat / 16 = 6 := by
        by_cases h : (xs.getD 0 0).toNat / 16 = 6
        · exact h
        · rw [if_pos h] at hk2; omega
      rw [if_neg (show ¬ ((xs.getD 0 0).toNat / 16 ≠ 6) from fun h => h hv)] at hk2
      have hsz : beN xs 4 2 ≤ n - 40 := by
        by_cases h : n - 40 < beN xs 4 2
        · rw [if_pos h] at hk2; omega
        · omega
      have hR2 := hR
      unfold Six.parseR at hR2
      have h6 : (xs.getD 6 0).toNat ≤ 255 := by have := (xs.getD 6 0).toNat_lt; omega
      obtain ⟨new, e1, e2, e3, e4, e5, e6, e7⟩ := Six.chainF_sound 9 _ _ [] acc nx rest hR2 rfl rfl (by simp) h6
      rw [List.nil_append] at e1
      subst e1
      have hall := fun e he => (Six.rightTo_len e4 e he)
      have hl3 := congrArg List.length e3
      rw [List.length_append, List.length_drop, List.length_take, Six.extB_length] at hl3
      refine ⟨beN xs 0 4 / 1048576 % 256, beN xs 0 4 % 1048576, (xs.getD 7 0).toNat, _, _, _, _, acc, nx, rest.length, rest, ?_, e6, e7, hall, by omega, beN_lt xs 8 8, beN_lt xs 16 8, beN_lt xs 24 8, beN_lt xs 32 8, fun A c W hx hc hcm => (hp A c W hx hc hcm).mono ?_⟩
      · have := (xs.getD 7 0).toNat_lt; omega
      · rintro e w' ⟨_, h2, h3⟩
        obtain ⟨acc', next', rest', hR', X, xc, es, A2, c2, he, hes, hX, hr⟩ := h2 hk
        rw [hR] at hR'
        cases hR'
        obtain ⟨hx1, hx2, hx3⟩ := hX.isX
        obtain ⟨_, r1, r2, r3⟩ := hr.reads
        exact ⟨X, es.length, xc, A2, c2, es, he, hes, hx1, hx2, hx3, r3, r1, r2, h3⟩
  · left
    refine ⟨Six.parseK n xs, hk, ?_, fun A c W hx hc hcm => (hp A c W hx hc hcm).mono ?_⟩
    · unfold Six.parseK
      split
      · omega
      · split
        · omega
        · split
          · omega
          · split <;> omega
    · rintro e w' ⟨h1, _, h3⟩
      exact ⟨none, 0, 0, none, 0, [], h1 hk, rfl, Six.IsX.nil _ _ _, by omega, by unfold maxLen; omega, IsB.nil _ _ _, by omega, by unfold maxLen; omega, h3⟩
end Tun
end Go.Proofs.Ytdmgbngdpjcliaa
