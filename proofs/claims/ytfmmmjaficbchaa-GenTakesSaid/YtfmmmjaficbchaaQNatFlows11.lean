/- Plain: a header's bytes, made again of what was read of them. No condition. -/
import Derived.Test.YtfmmmjaficbchaaQNatFlows10
import Derived.Test.YtfmmmjaficbchaaQNatFlows5
import Derived.Test.YtfmmmjaficbchaaQNatFlows3
import Derived.Test.YtfmmmjaficbchaaQNatFlows6
import Derived.Deep.DeepCutAuto
namespace Go.Proofs.Ytfmmmjaficbchaa
open Go.RowKit Go.ChangeShapes Go.WideShapes Go.ChangeAt Go.Deep
theorem beB_snoc (a b : Nat) (hb : b < 256) : ∀ k, beB (a * 256 + b) (k + 1) = beB a k ++ [UInt8.ofNat b]
  | 0 => by
    simp only [beB, List.nil_append, Nat.pow_zero, Nat.div_one]
    rw [Six.of8 (show (a * 256 + b) % 256 = b % 256 by omega)]
  | k + 1 => by
    have ih := beB_snoc a b hb k
    rw [beB, ih, beB, List.cons_append]
    congr 2
    rw [Nat.pow_succ, Nat.mul_comm (256 ^ k) 256, ← Nat.div_div_eq_div_mul]
    congr 1
    omega
theorem beB_beN (xs : List UInt8) (p : Nat) : ∀ k, p + k ≤ xs.length → beB (beN xs p k) k = (xs.drop p).take k
  | 0, _ => by simp [beB]
  | k + 1, h => by
    have ih := beB_beN xs p k (by omega)
    have hlt := (xs.getD (p + k) 0).toNat_lt
    rw [beN, beB_snoc _ _ (by omega), ih, List.take_add_one, List.getElem?_drop]
    congr 1
    have h1 : xs[p + k]? = some xs[p + k] := List.getElem?_eq_getElem (by omega)
    simp [List.getD, h1]
namespace Six
theorem cons_of8 (xs : List UInt8) (h : 8 ≤ xs.length) : ∃ x0 x1 x2 x3 x4 x5 x6 x7 tl, xs = x0 :: x1 :: x2 :: x3 :: x4 :: x5 :: x6 :: x7 :: tl := by
  match xs, h with
  | x0 :: x1 :: x2 :: x3 :: x4 :: x5 :: x6 :: x7 :: tl, _ => exact ⟨x0, x1, x2, x3, x4, x5, x6, x7, tl, rfl⟩
theorem of8' {a : Nat} {x : UInt8} (h : a % 256 = x.toNat) : UInt8.ofNat a = x := by
  apply UInt8.toNat.inj
  rw [UInt8.toNat_ofNat']
  exact h
theorem hd8_again (xs : List UInt8) (h : 8 ≤ xs.length) (hv : (xs.getD 0 0).toNat / 16 = 6) :
    hd8 (beN xs 0 4 / 1048576 % 256) (beN xs 0 4 % 1048576) (xs.getD 7 0).toNat (xs.getD 6 0).toNat (beN xs 4 2) = xs.take 8 := by
  obtain ⟨x0, x1, x2, x3, x4, x5, x6, x7, tl, rfl⟩ := cons_of8 xs h
  have b0 := x0.toNat_lt
  have b1 := x1.toNat_lt
  have b2 := x2.toNat_lt
  have b3 := x3.toNat_lt
  have b4 := x4.toNat_lt
  have b5 := x5.toNat_lt
  have b6 := x6.toNat_lt
  have b7 := x7.toNat_lt
  have e1 : beN (x0 :: x1 :: x2 :: x3 :: x4 :: x5 :: x6 :: x7 :: tl) 0 4 = ((x0.toNat * 256 + x1.toNat) * 256 + x2.toNat) * 256 + x3.toNat := by simp [beN]
  have e2 : beN (x0 :: x1 :: x2 :: x3 :: x4 :: x5 :: x6 :: x7 :: tl) 4 2 = x4.toNat * 256 + x5.toNat := by simp [beN]
  have hv' : x0.toNat / 16 = 6 := by simpa using hv
  have e6 : ((x0 :: x1 :: x2 :: x3 :: x4 :: x5 :: x6 :: x7 :: tl).getD 6 0) = x6 := rfl
  have e7 : ((x0 :: x1 :: x2 :: x3 :: x4 :: x5 :: x6 :: x7 :: tl).getD 7 0) = x7 := rfl
  rw [e1, e2, e6, e7]
  unfold hd8
  simp only [List.take_succ_cons, List.take_zero]
  refine list8 (of8' ?_) (of8' ?_) (of8' ?_) (of8' ?_) (of8' ?_) (of8' ?_) (of8' ?_) (of8' ?_) <;> omega
theorem head_again (xs : List UInt8) (h : 40 ≤ xs.length) (hv : (xs.getD 0 0).toNat / 16 = 6) :
    hd8 (beN xs 0 4 / 1048576 % 256) (beN xs 0 4 % 1048576) (xs.getD 7 0).toNat (xs.getD 6 0).toNat (beN xs 4 2) ++ addrB true (beN xs 8 8) (beN xs 16 8) ++ addrB true (beN xs 24 8) (beN xs 32 8) = xs.take 40 := by
  rw [hd8_again xs (by omega) hv]
  simp only [addrB, if_true]
  rw [beB_beN xs 8 8 (by omega), beB_beN xs 16 8 (by omega), beB_beN xs 24 8 (by omega), beB_beN xs 32 8 (by omega)]
  rw [show xs.take 40 = xs.take 8 ++ ((xs.drop 8).take 8 ++ ((xs.drop 16).take 8 ++ ((xs.drop 24).take 8 ++ (xs.drop 32).take 8))) from ?_]
  · simp
  · rw [show 40 = 8 + (8 + (8 + (8 + 8))) from rfl, List.take_add, List.take_add, List.take_add, List.take_add, List.drop_drop, List.drop_drop, List.drop_drop]
/-- The bytes of what was parsed. -/
theorem all_again (xs : List UInt8) (sz : Nat) (acc : List (Int × List UInt8)) (next : Nat) (rest : List UInt8) (h : 40 + sz ≤ xs.length) (hv : (xs.getD 0 0).toNat / 16 = 6) (hsz : beN xs 4 2 = sz)
    (hn : nextP acc (next : Int) = ((xs.getD 6 0).toNat : Int)) (hb : (xs.take (40 + sz)).drop 40 = extB acc (next : Int) ++ rest) :
    allB6 (beN xs 0 4 / 1048576 % 256) (beN xs 0 4 % 1048576) (xs.getD 7 0).toNat (beN xs 8 8) (beN xs 16 8) (beN xs 24 8) (beN xs 32 8) next acc rest = xs.take (40 + sz) := by
  have hl : (extB acc (next : Int) ++ rest).length = sz := by
    rw [← hb, List.length_drop, List.length_take]
    omega
  unfold allB6
  rw [hl, hn, Int.toNat_natCast, ← hsz, head_again xs (by omega) hv, hsz, ← hb]
  conv => rhs; rw [← List.take_append_drop 40 (xs.take (40 + sz))]
  rw [List.take_take, Nat.min_eq_left (by omega)]
theorem rightTo_len {es : List (Int × List UInt8)} (h : rightTo es es.length = true) : ∀ e ∈ es, e.2.length ≤ 2047 := by
  intro e he
  obtain ⟨i, hi, rfl⟩ := List.getElem_of_mem he
  have h1 := rightTo_le _ h (k := i + 1) (by omega)
  rw [rightTo_succ _ i _ (List.getElem?_eq_getElem hi)] at h1
  simp only [Bool.and_eq_true] at h1
  have h2 := h1.2.1
  unfold rightExtB at h2
  simp only [Bool.and_eq_true, decide_eq_true_eq] at h2
  exact h2.2.2.2.1
theorem Ends.form {k : Nat} {R : Option (List (Int × List UInt8) × Nat × List UInt8)} {cls lab hop shi slo dhi dlo : Nat} {w w' : World} {e : Ending} (h : Ends k R cls lab hop shi slo dhi dlo w w' e) :
    ∃ (cl la ho : Int) (b1 : Bool) (sh sl : Int) (b2 : Bool) (dh dl : Int) (X : Option Addr) (m xc nx : Nat) (A2 : Option Addr) (n2 c2 : Nat) (es : List Ext) (rest : List UInt8),
      e = .returned (.tuple #[hdV cl la ho b1 sh sl b2 dh dl X m xc nx, .slice A2 n2 c2, .int .i64 (k : Int)]) ∧ IsX w' w'.heap.size X m es ∧ m ≤ xc ∧ xc ≤ maxLen ∧ IsB w' w'.heap.size A2 n2 rest ∧ n2 ≤ c2 ∧ c2 ≤ maxLen ∧
      (k ≠ 0 → cl = 0 ∧ la = 0 ∧ ho = 0 ∧ b1 = false ∧ sh = 0 ∧ sl = 0 ∧ b2 = false ∧ dh = 0 ∧ dl = 0 ∧ X = none ∧ m = 0 ∧ xc = 0 ∧ nx = 0 ∧ A2 = none ∧ n2 = 0 ∧ c2 = 0) ∧
      (k = 0 → R = some (pes es, nx, rest) ∧ cl = cls ∧ la = lab ∧ ho = hop ∧ b1 = true ∧ sh = shi ∧ sl = slo ∧ b2 = true ∧ dh = dhi ∧ dl = dlo) ∧ Below w.heap.size w w' := by
  obtain ⟨h1, h2, h3⟩ := h
  by_cases hk : k = 0
  · obtain ⟨acc, next, rest, hR, X, xc, es, A2, c2, he, hes, hX, hr⟩ := h2 hk
    obtain ⟨hx1, hx2, hx3⟩ := hX.isX
    obtain ⟨_, r1, r2, r3⟩ := hr.reads
    subst hk
    exact ⟨cls, lab, hop, true, shi, slo, true, dhi, dlo, X, es.length, xc, next, A2, rest.length, c2, es, rest, he, hx1, hx2, hx3, r3, r1, r2, fun h => absurd rfl h, fun _ => ⟨by rw [hR, ← hes]; rfl, rfl, rfl, rfl, rfl, rfl, rfl, rfl, rfl, rfl⟩, h3⟩
  · exact ⟨0, 0, 0, false, 0, 0, false, 0, 0, none, 0, 0, 0, none, 0, 0, [], [], h1 hk, IsX.nil _ _ _, by omega, by unfold maxLen; omega, IsB.nil _ _ _, by omega, by unfold maxLen; omega, fun _ => ⟨rfl, rfl, rfl, rfl, rfl, rfl, rfl, rfl, rfl, rfl, rfl, rfl, rfl, rfl, rfl, rfl⟩, fun h => absurd h hk, h3⟩
end Six
end Go.Proofs.Ytfmmmjaficbchaa
/- What four.Parse and six.Parse make of bytes, wherever they lie: the same. Conditions: slices of bytes that read as lists, sizes below 2^40. -/
namespace Go.Proofs.Ytfmmmjaficbchaa
open Go.RowKit Go.ChangeShapes Go.WideShapes Go.ChangeAt Go.Deep
namespace Tun
/-- four.Parse, wherever the bytes lie. -/
def FourIs (n : Nat) (xs : List UInt8) (K tos id : Nat) (df mf : Bool) (frag ttl proto slo dlo n1 m1 : Nat) (rest : List UInt8) : Prop :=
  ∀ (A : Option Addr) (c : Nat) (W : World), IsB W W.heap.size A n xs → n ≤ c → c ≤ maxLen → Calls Try.prog 61 #[.slice A n c] W fun e w' => ∃ A1 c1 A2 c2,
    e = .returned (.tuple #[Four.hdV tos id df mf frag ttl proto false 0 slo false 0 dlo A1 n1 c1, .slice A2 m1 c2, .int .i64 (K : Int)]) ∧ IsB w' w'.heap.size A2 m1 rest ∧ m1 ≤ c2 ∧ c2 ≤ maxLen ∧ Below W.heap.size W w'
theorem four_bad {n : Nat} {xs : List UInt8} (K : Nat) (h : ∀ (A : Option Addr) (c : Nat) (W : World), IsB W W.heap.size A n xs → n ≤ c → Calls Try.prog 61 #[.slice A n c] W fun e w' => e = .returned (.tuple #[Four.hd0, .slice none 0 0, .int .i64 (K : Int)]) ∧ Below W.heap.size W w') :
    FourIs n xs K 0 0 false false 0 0 0 0 0 0 0 [] := fun A c W hx hc _ => (h A c W hx hc).mono fun _ w' ⟨he, hb⟩ => ⟨none, 0, none, 0, he, IsB.nil _ _ _, by omega, by unfold maxLen; omega, hb⟩
/-- What it makes of them: why nothing, or a header and what is behind it. -/
theorem four_is (n : Nat) (xs : List UInt8) (hxl : xs.length = n) (hnm : n ≤ 1099511627776) :
    (∃ K, K ≠ 0 ∧ K ≤ 20 ∧ FourIs n xs K 0 0 false false 0 0 0 0 0 0 0 []) ∨
    ∃ (tos id : Nat) (df mf : Bool) (frag ttl proto slo dlo n1 m1 : Nat) (rest : List UInt8), 20 + n1 + m1 ≤ n ∧ n1 ≤ 40 ∧ ttl ≤ 255 ∧ proto ≤ 255 ∧ frag ≤ 8191 ∧ slo < 4294967296 ∧ dlo < 4294967296 ∧ FourIs n xs 0 tos id df mf frag ttl proto slo dlo n1 m1 rest := by
  by_cases h1 : n < 20
  · exact .inl ⟨2, by omega, by omega, four_bad 2 fun A c w hx hc => Four.parse_short A n c xs w hx hc hnm h1⟩
  by_cases h2 : (xs.getD 0 0).toNat / 16 = 4
  case neg => exact .inl ⟨10, by omega, by omega, four_bad 10 fun A c w hx hc => Four.parse_version A n c xs w hx hc hnm (by omega) h2⟩
  obtain ⟨s, hs⟩ : ∃ s, (xs.getD 0 0).toNat % 16 * 4 = s := ⟨_, rfl⟩
  by_cases h3 : s < 20
  · exact .inl ⟨11, by omega, by omega, four_bad 11 fun A c w hx hc => Four.parse_header1 A n c xs w hx hc hnm (by omega) h2 s hs h3⟩
  by_cases h4 : n < s
  · exact .inl ⟨11, by omega, by omega, four_bad 11 fun A c w hx hc => Four.parse_header2 A n c xs w hx hc hnm (by omega) h2 s hs (by omega) h4⟩
  by_cases h5 : beN xs 6 2 / 32768 = 0
  case neg => exact .inl ⟨11, by omega, by omega, four_bad 11 fun A c w hx hc => Four.parse_header3 A n c xs w hx hc hnm (by omega) h2 s hs (by omega) (by omega) h5⟩
  by_cases h6 : beN xs 2 2 < s
  · exact .inl ⟨12, by omega, by omega, four_bad 12 fun A c w hx hc => Four.parse_length1 A n c xs w hx hc hnm (by omega) h2 s hs (by omega) (by omega) h5 h6⟩
  by_cases h7 : n < beN xs 2 2
  · exact .inl ⟨12, by omega, by omega, four_bad 12 fun A c w hx hc => Four.parse_length2 A n c xs w hx hc hnm (by omega) h2 s hs (by omega) (by omega) h5 (by omega) h7⟩
  by_cases h8 : Sum.ones (Sum.tot false (xs.take s)) = 65535
  case neg => exact .inl ⟨13, by omega, by omega, four_bad 13 fun A c w hx hc => Four.parse_sum A n c xs w hx hc hnm (by omega) h2 s hs (by omega) (by omega) h5 (by omega) (by omega) h8⟩
  have g1 := (xs.getD 0 0).toNat_lt
  have g2 := (xs.getD 8 0).toNat_lt
  have g3 := (xs.getD 9 0).toNat_lt
  refine .inr ⟨(xs.getD 1 0).toNat, beN xs 4 2, decide (beN xs 6 2 / 16384 % 2 = 1), decide (beN xs 6 2 / 8192 % 2 = 1), beN xs 6 2 % 8192, (xs.getD 8 0).toNat, (xs.getD 9 0).toNat, beN xs 12 4, beN xs 16 4, s - 20, beN xs 2 2 - s, (xs.take (beN xs 2 2)).drop s, by omega, by omega, by omega, by omega, by omega, beN_lt xs 12 4, beN_lt xs 16 4, ?_⟩
  intro A c W hx hc _
  refine (Four.parse_ok A n c xs W hx hc hnm (by omega) h2 s hs (by omega) (by omega) h5 (by omega) (by omega) h8).mono ?_
  rintro e w' ⟨A1, c1, A2, c2, rfl, _, _, _, i4, i5⟩
  obtain ⟨_, r1, r2, r3⟩ := i4.reads
  exact ⟨A1, c1, A2, c2, rfl, r3, r1, r2, i5⟩
/-- six.Parse, wherever the bytes lie. -/
def SixIs (n : Nat) (xs : List UInt8) (K : Nat) (cl la ho : Int) (b1 : Bool) (sh sl : Int) (b2 : Bool) (dh dl : Int) (acc : List (Int × List UInt8)) (nx m1 : Nat) (rest : List UInt8) : Prop :=
  ∀ (A : Option Addr) (c : Nat) (W : World), IsB W W.heap.size A n xs → n ≤ c → c ≤ maxLen → Calls Try.prog 55 #[.slice A n c] W fun e w' => ∃ X m xc A2 c2 es,
    e = .returned (.tuple #[Six.hdV cl la ho b1 sh sl b2 dh dl X m xc nx, .slice A2 m1 c2, .int .i64 (K : Int)]) ∧ Six.pes es = acc ∧ Six.IsX w' w'.heap.size X m es ∧ m ≤ xc ∧ xc ≤ maxLen ∧ IsB w' w'.heap.size A2 m1 rest ∧ m1 ≤ c2 ∧ c2 ≤ maxLen ∧ Below W.heap.size W w'
theorem six_is (n : Nat) (xs : List UInt8) (hxl : xs.length = n) (hnm : n ≤ 1099511627776) :
    (∃ K, K ≠ 0 ∧ K ≤ 20 ∧ SixIs n xs K 0 0 0 false 0 0 false 0 0 [] 0 0 []) ∨
    ∃ (cl la ho sh sl dh dl : Nat) (acc : List (Int × List UInt8)) (nx m1 : Nat) (rest : List UInt8), ho ≤ 255 ∧ nx ≤ 255 ∧ acc.length ≤ 8 ∧ (∀ e ∈ acc, e.2.length ≤ 2047) ∧ 40 + Six.sumP acc + m1 ≤ n ∧ sh < 18446744073709551616 ∧ sl < 18446744073709551616 ∧ dh < 18446744073709551616 ∧ dl < 18446744073709551616 ∧ SixIs n xs 0 cl la ho true sh sl true dh dl acc nx m1 rest := by
  have hp := fun (A : Option Addr) (c : Nat) (W : World) (h : IsB W W.heap.size A n xs) (hc : n ≤ c) (hcm : c ≤ maxLen) => Six.parse_any A n c xs W h hc hcm hnm _ _ _ _ _ _ _ rfl rfl rfl rfl rfl rfl rfl
  by_cases hk : Six.parseK n xs = 0
  · right
    rcases hR : Six.parseR xs with _ | ⟨acc, nx, rest⟩
    · exfalso
      unfold Six.parseK at hk
      unfold Six.parseR at hR
      rw [hR] at hk
      simp only [Option.isNone_none, if_true] at hk
      split at hk
      · omega
      · split at hk
        · omega
        · split at hk <;> omega
    · have hk2 := hk
      unfold Six.parseK at hk2
      have h40 : 40 ≤ n := by
        by_cases h : n < 40
        · rw [if_pos h] at hk2; omega
        · omega
      rw [if_neg (show ¬ n < 40 by omega)] at hk2
      have hv : (xs.getD 0 0).toNat / 16 = 6 := by
        by_cases h : (xs.getD 0 0).toNat / 16 = 6
        · exact h
        · rw [if_pos h] at hk2; omega
      rw [if_neg (show ¬ ((xs.getD 0 0).toNat / 16 ≠ 6) from fun h => h hv)] at hk2
      have hsz : beN xs 4 2 ≤ n - 40 := by
        by_cases h : n - 40 < beN xs 4 2
        · rw [if_pos h] at hk2; omega
        · omega
      have hR2 := hR
      unfold Six.parseR at hR2
      have h6 : (xs.getD 6 0).toNat ≤ 255 := by have := (xs.getD 6 0).toNat_lt; omega
      obtain ⟨new, e1, e2, e3, e4, e5, e6, e7⟩ := Six.chainF_sound 9 _ _ [] acc nx rest hR2 rfl rfl (by simp) h6
      rw [List.nil_append] at e1
      subst e1
      have hall := fun e he => (Six.rightTo_len e4 e he)
      have hl3 := congrArg List.length e3
      rw [List.length_append, List.length_drop, List.length_take, Six.extB_length] at hl3
      refine ⟨beN xs 0 4 / 1048576 % 256, beN xs 0 4 % 1048576, (xs.getD 7 0).toNat, _, _, _, _, acc, nx, rest.length, rest, ?_, e6, e7, hall, by omega, beN_lt xs 8 8, beN_lt xs 16 8, beN_lt xs 24 8, beN_lt xs 32 8, fun A c W hx hc hcm => (hp A c W hx hc hcm).mono ?_⟩
      · have := (xs.getD 7 0).toNat_lt; omega
      · rintro e w' ⟨_, h2, h3⟩
        obtain ⟨acc', next', rest', hR', X, xc, es, A2, c2, he, hes, hX, hr⟩ := h2 hk
        rw [hR] at hR'
        cases hR'
        obtain ⟨hx1, hx2, hx3⟩ := hX.isX
        obtain ⟨_, r1, r2, r3⟩ := hr.reads
        exact ⟨X, es.length, xc, A2, c2, es, he, hes, hx1, hx2, hx3, r3, r1, r2, h3⟩
  · left
    refine ⟨Six.parseK n xs, hk, ?_, fun A c W hx hc hcm => (hp A c W hx hc hcm).mono ?_⟩
    · unfold Six.parseK
      split
      · omega
      · split
        · omega
        · split
          · omega
          · split <;> omega
    · rintro e w' ⟨h1, _, h3⟩
      exact ⟨none, 0, 0, none, 0, [], h1 hk, rfl, Six.IsX.nil _ _ _, by omega, by unfold maxLen; omega, IsB.nil _ _ _, by omega, by unfold maxLen; omega, h3⟩
end Tun
end Go.Proofs.Ytfmmmjaficbchaa
/- What four.Parse and six.Parse make of bytes that are packets, in their own numbers. Conditions: sizes below 2^40. -/
namespace Go.Proofs.Ytfmmmjaficbchaa
open Go.RowKit Go.ChangeShapes Go.WideShapes Go.ChangeAt Go.Deep
namespace Tun
theorem four_ok (n : Nat) (xs : List UInt8) (hnm : n ≤ 1099511627776) (h1 : 20 ≤ n) (h2 : (xs.getD 0 0).toNat / 16 = 4) (s : Nat) (hs : (xs.getD 0 0).toNat % 16 * 4 = s) (h3 : 20 ≤ s) (h4 : s ≤ n) (h5 : beN xs 6 2 / 32768 = 0) (h6 : s ≤ beN xs 2 2) (h7 : beN xs 2 2 ≤ n) (h8 : Sum.ones (Sum.tot false (xs.take s)) = 65535) :
    FourIs n xs 0 (xs.getD 1 0).toNat (beN xs 4 2) (decide (beN xs 6 2 / 16384 % 2 = 1)) (decide (beN xs 6 2 / 8192 % 2 = 1)) (beN xs 6 2 % 8192) (xs.getD 8 0).toNat (xs.getD 9 0).toNat (beN xs 12 4) (beN xs 16 4) (s - 20) (beN xs 2 2 - s) ((xs.take (beN xs 2 2)).drop s) := by
  intro A c W hx hc _
  refine (Four.parse_ok A n c xs W hx hc hnm (by omega) h2 s hs (by omega) (by omega) h5 (by omega) (by omega) h8).mono ?_
  rintro e w' ⟨A1, c1, A2, c2, rfl, _, _, _, i4, i5⟩
  obtain ⟨_, r1, r2, r3⟩ := i4.reads
  exact ⟨A1, c1, A2, c2, rfl, r3, r1, r2, i5⟩
theorem six_ok (n : Nat) (xs : List UInt8) (hnm : n ≤ 1099511627776) (acc : List (Int × List UInt8)) (nx : Nat) (rest : List UInt8) (hk : Six.parseK n xs = 0) (hR : Six.parseR xs = some (acc, nx, rest)) :
    SixIs n xs 0 (beN xs 0 4 / 1048576 % 256 : Nat) (beN xs 0 4 % 1048576 : Nat) (xs.getD 7 0).toNat true (beN xs 8 8) (beN xs 16 8) true (beN xs 24 8) (beN xs 32 8) acc nx rest.length rest := by
  intro A c W hx hc hcm
  refine (Six.parse_any A n c xs W hx hc hcm hnm _ _ _ _ _ _ _ rfl rfl rfl rfl rfl rfl rfl).mono ?_
  rintro e w' ⟨_, h2, h3⟩
  obtain ⟨acc', next', rest', hR', X, xc, es, A2, c2, he, hes, hX, hr⟩ := h2 hk
  rw [hR] at hR'
  cases hR'
  obtain ⟨hx1, hx2, hx3⟩ := hX.isX
  obtain ⟨_, r1, r2, r3⟩ := hr.reads
  exact ⟨X, es.length, xc, A2, c2, es, he, hes, hx1, hx2, hx3, r3, r1, r2, h3⟩
end Tun
end Go.Proofs.Ytfmmmjaficbchaa
/- Plain: what makes bytes a packet of either version, and that bytes with a time to live one less are one again. No condition. -/
namespace Go.Proofs.Ytfmmmjaficbchaa
open Go.RowKit Go.ChangeShapes Go.WideShapes Go.ChangeAt Go.Deep
theorem beN_congr (xs ys : List UInt8) (p : Nat) : ∀ k, (∀ i, p ≤ i → i < p + k → xs.getD i 0 = ys.getD i 0) → beN xs p k = beN ys p k
  | 0, _ => rfl
  | k + 1, h => by rw [beN, beN, beN_congr xs ys p k (fun i h1 h2 => h i h1 (by omega)), h (p + k) (by omega) (by omega)]
theorem getD_of_get {xs ys : List UInt8} {i : Nat} (h : xs[i]? = ys[i]?) : xs.getD i 0 = ys.getD i 0 := by simp [List.getD, h]
theorem setB_get_out (xs : List UInt8) (p : Nat) (ys : List UInt8) (h : p + ys.length ≤ xs.length) (i : Nat) (hi : i < p ∨ p + ys.length ≤ i) : (setB xs p ys)[i]? = xs[i]? := by
  unfold setB
  rcases hi with hi | hi
  · rw [List.getElem?_append_left (by rw [List.length_take]; omega), List.getElem?_take_of_lt hi]
  · rw [List.getElem?_append_right (by rw [List.length_take]; omega), List.getElem?_append_right (by rw [List.length_take]; omega), List.getElem?_drop]
    congr 1
    rw [List.length_take]
    omega
theorem setB_getD_out (xs : List UInt8) (p : Nat) (ys : List UInt8) (h : p + ys.length ≤ xs.length) (i : Nat) (hi : i < p ∨ p + ys.length ≤ i) : (setB xs p ys).getD i 0 = xs.getD i 0 := getD_of_get (setB_get_out xs p ys h i hi)
theorem setB_take (xs : List UInt8) (p : Nat) (ys : List UInt8) (s : Nat) (h : p + ys.length ≤ s) (hs : s ≤ xs.length) : (setB xs p ys).take s = setB (xs.take s) p ys := by
  unfold setB
  rw [List.take_append, List.take_append, List.take_take, List.length_take, List.take_take, List.drop_take, Nat.min_eq_right (by omega), Nat.min_eq_left (by omega), Nat.min_eq_left (by omega)]
  rw [List.take_of_length_le (by omega : ys.length ≤ s - p)]
  congr 3
  omega
theorem setB_drop (xs : List UInt8) (p : Nat) (ys : List UInt8) (s : Nat) (h : p + ys.length ≤ s) (hl : p + ys.length ≤ xs.length) : (setB xs p ys).drop s = xs.drop s := by
  apply List.ext_getElem?
  intro i
  rw [List.getElem?_drop, List.getElem?_drop]
  exact setB_get_out xs p ys hl _ (.inr (by omega))
theorem beB2 (v : Nat) : beB v 2 = [UInt8.ofNat (v / 256), UInt8.ofNat v] := by simp [beB]
theorem beN2 (xs : List UInt8) (p : Nat) : beN xs p 2 = 256 * (xs.getD p 0).toNat + (xs.getD (p + 1) 0).toNat := by
  simp only [beN, Nat.add_zero]
  omega
theorem setB_get_in (xs : List UInt8) (p : Nat) (ys : List UInt8) (h : p + ys.length ≤ xs.length) (i : Nat) (hi : i < ys.length) : (setB xs p ys)[p + i]? = ys[i]? := by
  unfold setB
  rw [List.getElem?_append_right (by rw [List.length_take]; omega), List.length_take, Nat.min_eq_left (by omega), Nat.add_sub_cancel_left, List.getElem?_append_left hi]
theorem beN_setB2 (xs : List UInt8) (p v : Nat) (h : p + 2 ≤ xs.length) (hv : v < 65536) : beN (setB xs p (beB v 2)) p 2 = v := by
  have h0 := setB_get_in xs p (beB v 2) (by rw [beB_length]; omega) 0 (by rw [beB_length]; omega)
  have h1 := setB_get_in xs p (beB v 2) (by rw [beB_length]; omega) 1 (by rw [beB_length]; omega)
  rw [beB2] at h0 h1 ⊢
  rw [Nat.add_zero] at h0
  rw [beN2]
  have e0 : (setB xs p [UInt8.ofNat (v / 256), UInt8.ofNat v]).getD p 0 = UInt8.ofNat (v / 256) := by simp [List.getD, h0]
  have e1 : (setB xs p [UInt8.ofNat (v / 256), UInt8.ofNat v]).getD (p + 1) 0 = UInt8.ofNat v := by simp [List.getD, h1]
  rw [e0, e1, UInt8.toNat_ofNat', UInt8.toNat_ofNat']
  omega
theorem set_setB (xs : List UInt8) (p : Nat) (h : p + 2 ≤ xs.length) (v : Nat) (hv : v < 65536) (h1 : v % 256 = (xs.getD (p + 1) 0).toNat) : xs.set p (UInt8.ofNat (v / 256)) = setB xs p (beB v 2) := by
  apply List.ext_getElem?
  intro i
  rw [beB2]
  by_cases hi : i < p ∨ p + 2 ≤ i
  · rw [setB_get_out _ _ _ (by simpa using h) i (by simpa using hi), List.getElem?_set_ne (by omega)]
  · by_cases h0 : i = p
    · subst h0
      have h2 := setB_get_in xs i [UInt8.ofNat (v / 256), UInt8.ofNat v] (by simpa using h) 0 (by simp)
      rw [Nat.add_zero] at h2
      rw [h2, List.getElem?_set_self (by omega)]
      rfl
    · obtain rfl : i = p + 1 := by omega
      rw [setB_get_in xs p [UInt8.ofNat (v / 256), UInt8.ofNat v] (by simpa using h) 1 (by simp), List.getElem?_set_ne (by omega)]
      have e : xs.getD (p + 1) 0 = UInt8.ofNat v := by
        apply UInt8.toNat_inj.1
        rw [UInt8.toNat_ofNat', ← h1]
      have hg : xs[p + 1]? = some (xs.getD (p + 1) 0) := by simp [List.getD, show p + 1 < xs.length by omega]
      rw [hg, e]
      rfl
namespace Tun
/-- Bytes that are a packet of version 4. -/
structure FourOk (n : Nat) (xs : List UInt8) : Prop where
  len : xs.length = n
  h1 : 20 ≤ n
  h2 : (xs.getD 0 0).toNat / 16 = 4
  h3 : 20 ≤ (xs.getD 0 0).toNat % 16 * 4
  h4 : (xs.getD 0 0).toNat % 16 * 4 ≤ n
  h5 : beN xs 6 2 / 32768 = 0
  h6 : (xs.getD 0 0).toNat % 16 * 4 ≤ beN xs 2 2
  h7 : beN xs 2 2 ≤ n
  h8 : Sum.ones (Sum.tot false (xs.take ((xs.getD 0 0).toNat % 16 * 4))) = 65535
theorem four_case (n : Nat) (xs : List UInt8) (hxl : xs.length = n) (hnm : n ≤ 1099511627776) : (∃ K, K ≠ 0 ∧ K ≤ 20 ∧ FourIs n xs K 0 0 false false 0 0 0 0 0 0 0 []) ∨ FourOk n xs := by
  by_cases h1 : n < 20
  · exact .inl ⟨2, by omega, by omega, four_bad 2 fun A c w hx hc => Four.parse_short A n c xs w hx hc hnm h1⟩
  by_cases h2 : (xs.getD 0 0).toNat / 16 = 4
  case neg => exact .inl ⟨10, by omega, by omega, four_bad 10 fun A c w hx hc => Four.parse_version A n c xs w hx hc hnm (by omega) h2⟩
  by_cases h3 : (xs.getD 0 0).toNat % 16 * 4 < 20
  · exact .inl ⟨11, by omega, by omega, four_bad 11 fun A c w hx hc => Four.parse_header1 A n c xs w hx hc hnm (by omega) h2 _ rfl h3⟩
  by_cases h4 : n < (xs.getD 0 0).toNat % 16 * 4
  · exact .inl ⟨11, by omega, by omega, four_bad 11 fun A c w hx hc => Four.parse_header2 A n c xs w hx hc hnm (by omega) h2 _ rfl (by omega) h4⟩
  by_cases h5 : beN xs 6 2 / 32768 = 0
  case neg => exact .inl ⟨11, by omega, by omega, four_bad 11 fun A c w hx hc => Four.parse_header3 A n c xs w hx hc hnm (by omega) h2 _ rfl (by omega) (by omega) h5⟩
  by_cases h6 : beN xs 2 2 < (xs.getD 0 0).toNat % 16 * 4
  · exact .inl ⟨12, by omega, by omega, four_bad 12 fun A c w hx hc => Four.parse_length1 A n c xs w hx hc hnm (by omega) h2 _ rfl (by omega) (by omega) h5 h6⟩
  by_cases h7 : n < beN xs 2 2
  · exact .inl ⟨12, by omega, by omega, four_bad 12 fun A c w hx hc => Four.parse_length2 A n c xs w hx hc hnm (by omega) h2 _ rfl (by omega) (by omega) h5 (by omega) h7⟩
  by_cases h8 : Sum.ones (Sum.tot false (xs.take ((xs.getD 0 0).toNat % 16 * 4))) = 65535
  case neg => exact .inl ⟨13, by omega, by omega, four_bad 13 fun A c w hx hc => Four.parse_sum A n c xs w hx hc hnm (by omega) h2 _ rfl (by omega) (by omega) h5 (by omega) (by omega) h8⟩
  exact .inr ⟨hxl, by omega, h2, by omega, by omega, h5, by omega, by omega, h8⟩
theorem FourOk.is {n : Nat} {xs : List UInt8} (h : FourOk n xs) (hnm : n ≤ 1099511627776) (s al : Nat) (hs : (xs.getD 0 0).toNat % 16 * 4 = s) (hal : beN xs 2 2 = al) :
    FourIs n xs 0 (xs.getD 1 0).toNat (beN xs 4 2) (decide (beN xs 6 2 / 16384 % 2 = 1)) (decide (beN xs 6 2 / 8192 % 2 = 1)) (beN xs 6 2 % 8192) (xs.getD 8 0).toNat (xs.getD 9 0).toNat (beN xs 12 4) (beN xs 16 4) (s - 20) (al - s) ((xs.take al).drop s) := by
  subst hs hal
  exact four_ok n xs hnm h.h1 h.h2 _ rfl h.h3 h.h4 h.h5 h.h6 h.h7 h.h8
theorem tot_pos {ys : List UInt8} {s : Nat} (hs : 1 ≤ s) (hl : 1 ≤ ys.length) (h : 0 < (ys.getD 0 0).toNat) : Sum.tot false (ys.take s) ≠ 0 := by
  match ys, hl with
  | c :: l, _ =>
    obtain ⟨k, rfl⟩ : ∃ k, s = k + 1 := ⟨s - 1, by omega⟩
    simp only [List.take_succ_cons, Sum.tot]
    have : 0 < c.toNat := h
    simp
    omega
theorem FourOk.of_same {n : Nat} {xs ys : List UInt8} (h : FourOk n xs) (s al : Nat) (hs : (xs.getD 0 0).toNat % 16 * 4 = s) (hal : beN xs 2 2 = al) (hl : ys.length = al) (h0 : ∀ i, i < 8 → ys.getD i 0 = xs.getD i 0)
    (ht : Sum.tot false (ys.take s) % 65535 = Sum.tot false (xs.take s) % 65535) : FourOk al ys := by
  have e0 := h0 0 (by omega)
  have e2 : beN ys 2 2 = beN xs 2 2 := beN_congr _ _ _ _ fun i _ hi => h0 i (by omega)
  have e6 : beN ys 6 2 = beN xs 6 2 := beN_congr _ _ _ _ fun i _ hi => h0 i (by omega)
  have g1 := h.h2
  have g3 := h.h3
  have g6 := h.h6
  have g8 := Sum.ones_full.1 h.h8
  rw [hs] at g3 g6 g8
  rw [hal] at g6
  refine ⟨hl, by omega, by rw [e0]; exact g1, by rw [e0, hs]; omega, by rw [e0, hs]; omega, by rw [e6]; exact h.h5, by rw [e0, hs, e2, hal]; omega, by rw [e2, hal]; omega, ?_⟩
  rw [e0, hs]
  exact Sum.ones_full.2 ⟨by rw [ht]; exact g8.1, tot_pos (by omega) (by omega) (by rw [e0]; omega)⟩
/-- A packet of version 4 with a time to live one less. -/
def lessB4 (xs : List UInt8) (al : Nat) : List UInt8 := setB (setB (xs.take al) 8 (beB (beN xs 8 2 - 256) 2)) 10 (beB (Sum.turnN (beN xs 10 2) (beN xs 8 2) (beN xs 8 2 - 256)) 2)
theorem lessB4_eq (xs : List UInt8) (T v : Nat) (hT : 20 ≤ T) (hl : T ≤ xs.length) (hv : (xs.getD 8 0).toNat = v) (h1 : 1 ≤ v) (m m' c c' : Nat) (hm : beN (xs.take T) 8 2 = m) (hm' : beN ((xs.take T).set 8 (UInt8.ofNat (v - 1))) 8 2 = m') (hc : beN ((xs.take T).set 8 (UInt8.ofNat (v - 1))) 10 2 = c) (hc' : Sum.turnN c m m' = c') :
    setB ((xs.take T).set 8 (UInt8.ofNat (v - 1))) 10 (beB c' 2) = lessB4 xs T := by
  have tl : (xs.take T).length = T := by rw [List.length_take]; omega
  have b8 := beN_lt xs 8 2
  have w8 := beN2 xs 8
  have l9 := (xs.getD 9 0).toNat_lt
  rw [show (8 + 1) = 9 from rfl] at w8
  have e1 : beN (xs.take T) 8 2 = beN xs 8 2 := Six.beN_take xs T 8 2 (by omega)
  have es : (xs.take T).set 8 (UInt8.ofNat (v - 1)) = setB (xs.take T) 8 (beB (beN xs 8 2 - 256) 2) := by
    rw [← set_setB (xs.take T) 8 (by omega) (beN xs 8 2 - 256) (by omega) (by rw [Six.getD_take xs T 9 (by omega)]; omega)]
    congr 2
    omega
  rw [es] at hm' hc ⊢
  rw [beN_setB2 _ _ _ (by omega) (by omega)] at hm'
  rw [beN_congr _ (xs.take T) 10 2 (fun i h1 h2 => setB_getD_out _ _ _ (by rw [beB_length]; omega) i (by rw [beB_length]; omega)), Six.beN_take xs T 10 2 (by omega)] at hc
  unfold lessB4
  rw [← hc', ← hm', ← hc, ← hm, e1]
theorem lessB4_ok {n : Nat} {xs : List UInt8} (h : FourOk n xs) (s al : Nat) (hs : (xs.getD 0 0).toNat % 16 * 4 = s) (hal : beN xs 2 2 = al) (h2 : 2 ≤ (xs.getD 8 0).toNat) :
    FourOk al (lessB4 xs al) ∧ (lessB4 xs al).length = al ∧ ((lessB4 xs al).getD 8 0).toNat = (xs.getD 8 0).toNat - 1 ∧ (∀ i, i < al → i ≠ 8 → i ≠ 10 → i ≠ 11 → (lessB4 xs al)[i]? = xs[i]?) ∧ ((lessB4 xs al).take al).drop s = (xs.take al).drop s := by
  have g3 := h.h3
  have g4 := h.h4
  have g6 := h.h6
  have g7 := h.h7
  have gl := h.len
  rw [hs] at g3 g4 g6
  rw [hal] at g6 g7
  have b8 := beN_lt xs 8 2
  have b10 := beN_lt xs 10 2
  have w8 := beN2 xs 8
  have l9 := (xs.getD 9 0).toNat_lt
  rw [show (8 + 1) = 9 from rfl] at w8
  have tl : (xs.take al).length = al := by rw [List.length_take]; omega
  obtain ⟨m, hm⟩ : ∃ m, beN xs 8 2 = m := ⟨_, rfl⟩
  obtain ⟨c, hc⟩ : ∃ c, beN xs 10 2 = c := ⟨_, rfl⟩
  obtain ⟨c', hc'⟩ : ∃ c', Sum.turnN c m (m - 256) = c' := ⟨_, rfl⟩
  have hcl : c' ≤ 65535 := hc' ▸ Sum.turnN_le _ _ _
  have hmod := Sum.turnN_mod c m (m - 256) (by omega) (by omega)
  rw [hc'] at hmod
  rw [hm] at w8 b8
  have hY : lessB4 xs al = setB (setB (xs.take al) 8 (beB (m - 256) 2)) 10 (beB c' 2) := by unfold lessB4; rw [hm, hc, hc']
  obtain ⟨z, hz⟩ : ∃ z, setB (xs.take al) 8 (beB (m - 256) 2) = z := ⟨_, rfl⟩
  have zl : z.length = al := by rw [← hz, setB_length _ _ _ (by rw [beB_length]; omega), tl]
  rw [hz] at hY
  have yl : (lessB4 xs al).length = al := by rw [hY, setB_length _ _ _ (by rw [beB_length]; omega), zl]
  have same : ∀ i, i < al → i ≠ 8 → i ≠ 9 → i ≠ 10 → i ≠ 11 → (lessB4 xs al)[i]? = xs[i]? := by
    intro i hi n8 n9 n10 n11
    rw [hY, setB_get_out _ _ _ (by rw [beB_length]; omega) i (by rw [beB_length]; omega), ← hz, setB_get_out _ _ _ (by rw [beB_length]; omega) i (by rw [beB_length]; omega), List.getElem?_take_of_lt hi]
  have z8 : z[8]? = some (UInt8.ofNat ((m - 256) / 256)) := by
    have := setB_get_in (xs.take al) 8 (beB (m - 256) 2) (by rw [beB_length]; omega) 0 (by rw [beB_length]; omega)
    rw [← hz]
    rw [Nat.add_zero] at this
    rw [this, beB2]
    rfl
  have z9 : z[9]? = some (UInt8.ofNat (m - 256)) := by
    have := setB_get_in (xs.take al) 8 (beB (m - 256) 2) (by rw [beB_length]; omega) 1 (by rw [beB_length]; omega)
    rw [← hz]
    rw [this, beB2]
    rfl
  have y9 : (lessB4 xs al)[9]? = xs[9]? := by
    rw [hY, setB_get_out _ _ _ (by rw [beB_length]; omega) 9 (by rw [beB_length]; omega), z9]
    have hg : xs[9]? = some (xs.getD 9 0) := by simp [List.getD, show 9 < xs.length by omega]
    have e9 : UInt8.ofNat (m - 256) = xs.getD 9 0 := UInt8.toNat_inj.1 (by rw [UInt8.toNat_ofNat']; omega)
    rw [hg, e9]
  refine ⟨h.of_same s al hs hal yl (fun i hi => getD_of_get (same i (by omega) (by omega) (by omega) (by omega) (by omega))) ?_, yl, ?_, ?_, ?_⟩
  · have t1 : (lessB4 xs al).take s = setB (setB (xs.take s) 8 (beB (m - 256) 2)) 10 (beB c' 2) := by
      rw [hY, setB_take _ _ _ _ (by rw [beB_length]; omega) (by omega), ← hz, setB_take _ _ _ _ (by rw [beB_length]; omega) (by omega), List.take_take, Nat.min_eq_left (by omega)]
    obtain ⟨u, hu⟩ : ∃ u, xs.take s = u := ⟨_, rfl⟩
    have ul : u.length = s := by rw [← hu, List.length_take]; omega
    rw [t1, hu]
    have q1 := Sum.tot_setB2 u 8 (m - 256) rfl (by omega) (by omega)
    have q2 := Sum.tot_setB2 (setB u 8 (beB (m - 256) 2)) 10 c' rfl (by rw [setB_length _ _ _ (by rw [beB_length]; omega)]; omega) (by omega)
    have e1 : beN u 8 2 = m := by rw [← hu, Six.beN_take xs s 8 2 (by omega), hm]
    have e2 : beN (setB u 8 (beB (m - 256) 2)) 10 2 = c := by
      rw [beN_congr _ u 10 2 (fun i h1 h2 => setB_getD_out _ _ _ (by rw [beB_length]; omega) i (by rw [beB_length]; omega)), ← hu, Six.beN_take xs s 10 2 (by omega), hc]
    rw [e1] at q1
    rw [e2] at q2
    omega
  · rw [hY]
    have : (setB z 10 (beB c' 2))[8]? = some (UInt8.ofNat ((m - 256) / 256)) := by rw [setB_get_out _ _ _ (by rw [beB_length]; omega) 8 (by rw [beB_length]; omega), z8]
    simp only [List.getD, this, Option.getD_some]
    rw [UInt8.toNat_ofNat']
    have := (xs.getD 8 0).toNat_lt
    simp only [List.getD] at *
    omega
  · intro i hi n8 n10 n11
    by_cases n9 : i = 9
    · rw [n9]; exact y9
    · exact same i hi n8 n9 n10 n11
  · rw [List.take_of_length_le (by omega), hY, setB_drop _ _ _ _ (by rw [beB_length]; omega) (by rw [beB_length]; omega), ← hz, setB_drop _ _ _ _ (by rw [beB_length]; omega) (by rw [beB_length]; omega)]
/-- Bytes that are a packet of version 6. -/
structure SixOk (n : Nat) (xs : List UInt8) (acc : List (Int × List UInt8)) (nx : Nat) (rest : List UInt8) : Prop where
  len : xs.length = n
  hk : Six.parseK n xs = 0
  hR : Six.parseR xs = some (acc, nx, rest)
theorem six_case (n : Nat) (xs : List UInt8) (hxl : xs.length = n) (hnm : n ≤ 1099511627776) : (∃ K, K ≠ 0 ∧ K ≤ 20 ∧ SixIs n xs K 0 0 0 false 0 0 false 0 0 [] 0 0 []) ∨ ∃ acc nx rest, SixOk n xs acc nx rest := by
  by_cases hk : Six.parseK n xs = 0
  · right
    rcases hR : Six.parseR xs with _ | ⟨acc, nx, rest⟩
    · exfalso
      unfold Six.parseK at hk
      unfold Six.parseR at hR
      rw [hR] at hk
      simp only [Option.isNone_none, if_true] at hk
      split at hk
      · omega
      · split at hk
        · omega
        · split at hk <;> omega
    · exact ⟨acc, nx, rest, hxl, hk, hR⟩
  · left
    refine ⟨Six.parseK n xs, hk, ?_, fun A c W hx hc hcm => (Six.parse_any A n c xs W hx hc hcm hnm _ _ _ _ _ _ _ rfl rfl rfl rfl rfl rfl rfl).mono ?_⟩
    · unfold Six.parseK
      split
      · omega
      · split
        · omega
        · split
          · omega
          · split <;> omega
    · rintro e w' ⟨h1, _, h3⟩
      exact ⟨none, 0, 0, none, 0, [], h1 hk, rfl, Six.IsX.nil _ _ _, by omega, by unfold maxLen; omega, IsB.nil _ _ _, by omega, by unfold maxLen; omega, h3⟩
theorem SixOk.is {n : Nat} {xs : List UInt8} {acc : List (Int × List UInt8)} {nx : Nat} {rest : List UInt8} (h : SixOk n xs acc nx rest) (hnm : n ≤ 1099511627776) :
    SixIs n xs 0 (beN xs 0 4 / 1048576 % 256 : Nat) (beN xs 0 4 % 1048576 : Nat) (xs.getD 7 0).toNat true (beN xs 8 8) (beN xs 16 8) true (beN xs 24 8) (beN xs 32 8) acc nx rest.length rest := six_ok n xs hnm acc nx rest h.hk h.hR
theorem SixOk.facts {n : Nat} {xs : List UInt8} {acc : List (Int × List UInt8)} {nx : Nat} {rest : List UInt8} (h : SixOk n xs acc nx rest) :
    40 ≤ n ∧ (xs.getD 0 0).toNat / 16 = 6 ∧ beN xs 4 2 ≤ n - 40 ∧ 40 + Six.sumP acc + rest.length = 40 + beN xs 4 2 ∧ nx ≤ 255 ∧ acc.length ≤ 8 ∧ (∀ e ∈ acc, e.2.length ≤ 2047) ∧ Six.isB (nx : Int) = false := by
  have hk2 := h.hk
  have hxl := h.len
  unfold Six.parseK at hk2
  have h40 : 40 ≤ n := by
    by_cases h : n < 40
    · rw [if_pos h] at hk2; omega
    · omega
  rw [if_neg (show ¬ n < 40 by omega)] at hk2
  have hv : (xs.getD 0 0).toNat / 16 = 6 := by
    by_cases h : (xs.getD 0 0).toNat / 16 = 6
    · exact h
    · rw [if_pos h] at hk2; omega
  rw [if_neg (show ¬ ((xs.getD 0 0).toNat / 16 ≠ 6) from fun h => h hv)] at hk2
  have hsz : beN xs 4 2 ≤ n - 40 := by
    by_cases h : n - 40 < beN xs 4 2
    · rw [if_pos h] at hk2; omega
    · omega
  have hR2 := h.hR
  unfold Six.parseR at hR2
  have h6 : (xs.getD 6 0).toNat ≤ 255 := by have := (xs.getD 6 0).toNat_lt; omega
  obtain ⟨new, e1, e2, e3, e4, e5, e6, e7⟩ := Six.chainF_sound 9 _ _ [] acc nx rest hR2 rfl rfl (by simp) h6
  rw [List.nil_append] at e1
  subst e1
  have hall := fun e he => (Six.rightTo_len e4 e he)
  have hl3 := congrArg List.length e3
  rw [List.length_append, List.length_drop, List.length_take, Six.extB_length] at hl3
  exact ⟨h40, hv, hsz, by omega, e6, e7, hall, e5⟩
theorem SixOk.of_same {n : Nat} {xs ys : List UInt8} {acc : List (Int × List UInt8)} {nx : Nat} {rest : List UInt8} (h : SixOk n xs acc nx rest) (T : Nat) (hT : 40 + beN xs 4 2 = T) (hl : ys.length = T)
    (h0 : ∀ i, i < 7 → ys.getD i 0 = xs.getD i 0) (hd : ys.drop 40 = (xs.take T).drop 40) : SixOk T ys acc nx rest := by
  obtain ⟨f1, f2, f3, f4, _⟩ := h.facts
  have e0 := h0 0 (by omega)
  have e6 := h0 6 (by omega)
  have e4 : beN ys 4 2 = beN xs 4 2 := beN_congr _ _ _ _ fun i _ hi => h0 i (by omega)
  have hR : Six.parseR ys = some (acc, nx, rest) := by
    have := h.hR
    unfold Six.parseR at this ⊢
    rw [e6, e4, hT, List.take_of_length_le (by omega), hd, ← hT]
    exact this
  refine ⟨hl, ?_, hR⟩
  unfold Six.parseR at hR
  unfold Six.parseK
  rw [if_neg (by omega), if_neg (by rw [e0]; omega), if_neg (by rw [e4]; omega), hR]
  rfl
/-- A packet of version 6 with a time to live one less. -/
def lessB6 (xs : List UInt8) (T : Nat) : List UInt8 := (xs.take T).set 7 (UInt8.ofNat ((xs.getD 7 0).toNat - 1))
theorem lessB6_ok {n : Nat} {xs : List UInt8} {acc : List (Int × List UInt8)} {nx : Nat} {rest : List UInt8} (h : SixOk n xs acc nx rest) (T : Nat) (hT : 40 + Six.sumP acc + rest.length = T) :
    SixOk T (lessB6 xs T) acc nx rest ∧ (lessB6 xs T).length = T ∧ ((lessB6 xs T).getD 7 0).toNat = (xs.getD 7 0).toNat - 1 ∧ (∀ i, i < T → i ≠ 7 → (lessB6 xs T)[i]? = xs[i]?) := by
  obtain ⟨f1, f2, f3, f4, _⟩ := h.facts
  have hxl := h.len
  have yl : (lessB6 xs T).length = T := by unfold lessB6; rw [List.length_set, List.length_take]; omega
  have same : ∀ i, i < T → i ≠ 7 → (lessB6 xs T)[i]? = xs[i]? := by
    intro i hi h7
    unfold lessB6
    rw [List.getElem?_set_ne (by omega), List.getElem?_take_of_lt hi]
  refine ⟨h.of_same T (by omega) yl (fun i hi => getD_of_get (same i (by omega) (by omega))) ?_, yl, ?_, same⟩
  · unfold lessB6
    rw [List.drop_set_of_lt (by omega)]
  · have : (lessB6 xs T)[7]? = some (UInt8.ofNat ((xs.getD 7 0).toNat - 1)) := by unfold lessB6; rw [List.getElem?_set_self (by rw [List.length_take]; omega)]
    simp only [List.getD, this, Option.getD_some]
    rw [UInt8.toNat_ofNat']
    have := (xs.getD 7 0).toNat_lt
    simp only [List.getD] at *
    omega
end Tun
end Go.Proofs.Ytfmmmjaficbchaa
/- four.Bytes by contract, where the header may be. Conditions: options of at most 40 bytes, few bytes behind it. -/
namespace Go.Proofs.Ytfmmmjaficbchaa
open Go.RowKit Go.ChangeShapes Go.WideShapes Go.ChangeAt Go.Deep
namespace Four
theorem hdB_length (tos id fl ttl proto slo dlo : Nat) (os : List UInt8) (pl : Nat) : (hdB tos id fl ttl proto slo dlo os pl).length = 20 + os.length := by
  unfold hdB
  rw [setB_length _ _ _ (by rw [hdB0_length]; simp [beB]; omega), hdB0_length]
set_option maxRecDepth 20000 in
set_option maxHeartbeats 8000000 in
theorem bytes_yes (tos id : Nat) (df mf : Bool) (frag ttl proto slo dlo fl : Nat) (hfl : flI df mf frag = (fl : Int)) (A : Option Addr) (n c : Nat) (os : List UInt8) (P : Option Addr) (m d : Nat) (ps : List UInt8) (w : World)
    (h1 : tos ≤ 255) (h2 : id ≤ 65535) (h3 : frag ≤ 8191) (h4 : ttl ≤ 255) (h5 : proto ≤ 255) (h6 : slo < 4294967296) (h7 : dlo < 4294967296) (h8 : n ≤ 40) (h9 : n % 4 = 0)
    (ho : IsB w w.heap.size A n os) (hp : IsB w w.heap.size P m ps) (hm : 20 + n + m ≤ 65535) :
    Calls Try.prog 69 #[hdV tos id df mf frag ttl proto false 0 slo false 0 dlo A n c, .slice P m d] w fun e w' => ∃ v, e = .returned (.tuple #[v, .int .i64 0]) ∧ OwnB w' w.heap.size v (hdB tos id fl ttl proto slo dlo os m ++ ps) ∧ Below w.heap.size w w' := by
  have hno := ho.1
  have hmp := hp.1
  have hbox := blk_new w 106 #[.int .i64 tos, .int .i64 id, .bool df, .bool mf, .int .i64 frag, .int .i64 ttl, .int .i64 proto, .bool false, .int .u64 0, .int .u64 slo, .bool false, .int .u64 0, .int .u64 dlo, .slice A n c]
  replace ho := hide ho
  replace hp := hide hp
  replace hno := hide hno
  replace hmp := hide hmp
  unfold hdV
  go_enter Try.func69, Try.ntmps69
  go_wp2_with fail
  refine (right_yes tos id df mf frag ttl proto slo dlo A n c _ (by omega) (by omega) (by omega) (by omega) (by omega) (by omega) (by omega) (by omega) (by omega) (by omega) (by omega) (by omega) h8 h9).mono ?_
  rintro e w1 ⟨rfl, hb1⟩
  obtain ⟨B, hB⟩ : ∃ B, w.heap.size + 1 = B := ⟨_, rfl⟩
  have hbw1 : Below B (w.alloc (hdC tos id df mf frag ttl proto false 0 slo false 0 dlo A n c)) w1 := by rw [← hB]; simpa using hb1
  have hz1 : B ≤ w1.heap.size := by have := hb1.size; simp only [World.size_alloc] at this; omega
  have hbox1 := blk_below hb1 (by simp) hbox
  have hcg := blk_cell hbox1
  have hw1 : Below w.heap.size w w1 := ((Below.refl _ _).alloc (Nat.le_refl _) _).trans (hb1.mono (by simp))
  have hltB : w.heap.size < B := by omega
  replace hbox := hide hbox
  replace hbox1 := hide hbox1
  replace hb1 := hide hb1
  replace hbw1 := hide hbw1
  replace hw1 := hide hw1
  have hnb : n ≤ 1099511627776 := by omega
  go_wp2_with fail
  refine (len_any tos id df mf frag ttl proto false 0 slo false 0 dlo A n c _ hnb).mono ?_
  rintro e w2 ⟨rfl, hb2⟩
  have hbox2 := blk_below (hb2.mono hz1) hltB hbox1.out
  have hcg2 := blk_cell hbox2
  have hz2 := Nat.le_trans hz1 hb2.size
  have hw2 : Below w.heap.size w w2 := hw1.out.trans (hb2.mono (by omega))
  clear hcg
  replace hbox2 := hide hbox2
  replace hb2 := hide hb2
  replace hw2 := hide hw2
  have q0 : bits .or .u64 (frag : Int) 16384 = (frag : Int) + 16384 := u64_or16384 _ (by omega) (by omega)
  unfold flI at hfl
  obtain ⟨f1, hf1⟩ : ∃ f1 : Int, (frag : Int) + (if df then 16384 else 0) = f1 := ⟨_, rfl⟩
  have q1 : bits .or .u64 f1 8192 = f1 + 8192 := by
    rw [← hf1]
    rcases df with _ | _
    · simpa using u64_or8192 (frag : Int) (by omega) (by omega)
    · simpa using u64_or8192' (frag : Int) (by omega) (by omega)
  rw [hf1] at hfl
  have hfl2 : fl < 65536 := by
    have : f1 ≤ 8191 + 16384 := by rw [← hf1]; split <;> omega
    have : (if mf then (8192 : Int) else 0) ≤ 8192 := by split <;> omega
    omega
  replace hf1 := hide hf1
  replace hfl := hide hfl
  go_upto_if 23 with fail
  go_cut [6] (fun s6 wx => s6 = .int .u64 f1 ∧ w2 = wx)
  case first =>
    rcases df with _ | _ <;> (go_wp2_with fail; go_meet; exact ⟨by rw [← hf1.out]; simp, rfl⟩)
  case rest =>
  obtain ⟨rfl, rfl⟩ := hcut
  go_upto_if 27 with fail
  go_cut [6] (fun s6 wx => s6 = .int .u64 (fl : Int) ∧ w2 = wx)
  case first =>
    rcases mf with _ | _ <;> (go_wp2_with fail; go_meet; exact ⟨by rw [← hfl.out]; simp, rfl⟩)
  case rest =>
  obtain ⟨rfl, rfl⟩ := hcut
  clear q0 q1
  have hcl : ∀ (l : Later w2) (o : Nat), l.w.cell? ⟨w.heap.size, o, none⟩ = _ := fun l o => blk_cell (blk_below l.hb (Nat.lt_of_lt_of_le hltB hz2) hbox2.out) o
  go_wp2_with fail
  refine wp_region_L (by kernel_rfl) ?_
  refine wpE_seg 0 8 (fuel := 2) (by kernel_rfl) (fun d _ _ _ _ h => by cases d <;> exact h) (by kernel_rfl) (by kernel_rfl) ?_
  simp only [List.drop_zero, List.take_succ_cons, List.take_zero]
  (refine wpQE_step (fun K hK => ?_); go_simp; refine hK _ ?_; clear hK K)
  (refine wpQE_step (fun K hK => ?_); go_simp; apply Exists.intro; refine ⟨fun l => ?_, hK _ ?_⟩; (go_at_call 62; refine (len_any tos id _ _ frag ttl proto false 0 slo false 0 dlo A n c _ hnb).mono ?_; rintro e w' ⟨rfl, hb⟩; exact ⟨rfl, hb⟩); clear hK K)
  iterate 6 (refine wpQE_step (fun K hK => ?_); go_simp; refine hK _ ?_; clear hK K)
  refine wpQE_nil ?_
  obtain ⟨sz, hsz⟩ : ∃ sz, (20 + n) / 4 = sz := ⟨_, rfl⟩
  have r1 : IntKind.i64.wrap ((20 + (n : Int)).tdiv 4) = (sz : Int) := by
    rw [Int.tdiv_eq_ediv_of_nonneg (by omega)]
    rw [wraps62 _ (by omega) (by omega)]
    omega
  have r2 : bits .or .i64 64 (sz : Int) = ((64 + sz : Nat) : Int) := by rw [i64_or64 _ (by omega) (by omega)]; omega
  have r3 : IntKind.u8.wrap ((64 + sz : Nat) : Int) = ((64 + sz : Nat) : Int) := wraps_u8 _ (by omega) (by omega)
  have r4 : IntKind.u8.wrap (tos : Int) = (tos : Int) := wraps_u8 _ (by omega) (by omega)
  rw [r1, r2, r3, r4]
  clear r1 r2 r3 r4 hcl
  refine wpE_step 8 (fuel := 1) rfl (by kernel_rfl) (fun l K hK => ?_)
  go_simp
  have hzl : B ≤ l.w.heap.size := Nat.le_trans hz2 l.hb.size
  have hown0 : OwnB (l.w.alloc (.cells #[.int .u8 ((64 + sz : Nat) : Int), .int .u8 (tos : Int)] 5)) B (.slice (some ⟨l.w.heap.size, 0, none⟩) 2 2) [UInt8.ofNat (64 + sz), UInt8.ofNat tos] :=
    OwnB.litv l.w B _ _ 2 (by simp only [List.map_cons, List.map_nil]; rw [u8v_nat _ (by omega), u8v_nat _ (by omega)]) rfl hzl (by omega)
  obtain ⟨v3, hv3⟩ : ∃ v3, Value.slice (some ⟨l.w.heap.size, 0, none⟩) 2 2 = v3 := ⟨_, rfl⟩
  obtain ⟨w3, hw3⟩ : ∃ w3, l.w.alloc (.cells #[.int .u8 ((64 + sz : Nat) : Int), .int .u8 (tos : Int)] 5) = w3 := ⟨_, rfl⟩
  have hb3 : Below l.w.heap.size l.w w3 := hw3 ▸ (Below.refl _ _).alloc (Nat.le_refl _) _
  rw [hw3, hv3] at hown0
  refine hK _ _ (by simpa [LaterThan] using hw3 ▸ hb3) ?_
  clear hK K
  have hw3' : (l.w.alloc (.cells #[.int .u8 (64 + (sz : Int)), .int .u8 (tos : Int)] 5)) = w3 := by rw [← hw3]; simp
  rw [hw3', hv3]
  clear hw3 hw3' hv3
  refine wpE_end (by kernel_rfl) (fun l2 => ?_)
  refine wpT_step 9 rfl (by kernel_rfl) (fun K hK => ?_)
  go_simp
  refine hK _ _ ?_
  clear hK K
  refine wpT_done (by kernel_rfl) ?_ 0
  obtain ⟨w4, hw4⟩ : ∃ w4, l2.w = w4 := ⟨_, rfl⟩
  have hown4 : OwnB w4 B v3 _ := hw4 ▸ hown0.below l2.hb
  have hb4 : Below B w2 w4 := hw4 ▸ ((l.hb.mono hz2).trans (hb3.mono hzl)).trans (l2.hb.mono (Nat.le_trans hzl hb3.size))
  rw [hw4]
  clear hw4 hown0 hb3
  have hz4 : B ≤ w4.heap.size := Nat.le_trans hz2 hb4.size
  have hbox4 := blk_below hb4 hltB hbox2.out
  replace hown4 := hide hown4
  replace hbox4 := hide hbox4
  have hcl4 : ∀ (l : Later w4) (o : Nat), l.w.cell? ⟨w.heap.size, o, none⟩ = _ := fun l o => blk_cell (blk_below l.hb (Nat.lt_of_lt_of_le hltB hz4) hbox4.out) o
  go_wp2_with fail
  refine wp_region_L (by kernel_rfl) ?_
  refine wpE_seg 0 11 (fuel := 3) (by kernel_rfl) (fun d _ _ _ _ h => by cases d <;> exact h) (by kernel_rfl) (by kernel_rfl) ?_
  simp only [List.drop_zero, List.take_succ_cons, List.take_zero]
  iterate 2 (refine wpQE_step (fun K hK => ?_); go_simp; refine hK _ ?_; clear hK K)
  (refine wpQE_step (fun K hK => ?_); go_simp; apply Exists.intro; refine ⟨fun l => ?_, hK _ ?_⟩; (go_at_call 62; refine (len_any tos id _ _ frag ttl proto false 0 slo false 0 dlo A n c _ hnb).mono ?_; rintro e w' ⟨rfl, hb⟩; exact ⟨rfl, hb⟩); clear hK K)
  iterate 8 (refine wpQE_step (fun K hK => ?_); go_simp; refine hK _ ?_; clear hK K)
  refine wpQE_nil ?_
  clear hcl4
  refine wpE_step 11 (fuel := 2) rfl (by kernel_rfl) (fun l K hK => ?_)
  go_simp
  obtain ⟨T, hT⟩ : ∃ T, 20 + n + m = T := ⟨_, rfl⟩
  have r5 : IntKind.i64.wrap (20 + (n : Int) + (m : Int)) = (T : Int) := by rw [wraps62 _ (by omega) (by omega)]; omega
  have r6 : IntKind.u64.wrap (T : Int) = (T : Int) := wrapsu64 _ (by omega) (by omega)
  have r7 : IntKind.u64.wrap (id : Int) = (id : Int) := wrapsu64 _ (by omega) (by omega)
  rw [r5, r6, r7]
  clear r5 r6 r7
  obtain ⟨w5, hw5⟩ : ∃ w5, l.w.alloc (.cells #[.int .u64 (T : Int), .int .u64 (id : Int), .int .u64 (fl : Int)] 24) = w5 := ⟨_, rfl⟩
  have hzl4 := l.hb.size
  have hiv5 : IsV w5 (l.w.heap.size + 1) 1 (some ⟨l.w.heap.size, 0, none⟩) 3 (([T, id, fl] : List Nat).map u64v) := hw5 ▸ IsV.lit l.w 24 [.int .u64 (T : Int), .int .u64 (id : Int), .int .u64 (fl : Int)] 3 3 rfl
  have hb5 : Below l.w.heap.size l.w w5 := hw5 ▸ (Below.refl _ _).alloc (Nat.le_refl _) _
  have hz5 : w5.heap.size = l.w.heap.size + 1 := by rw [← hw5]; simp
  rw [hw5]
  refine hK _ _ hb5 ?_
  clear hK K
  clear hw5
  refine wpE_end (by kernel_rfl) (fun l2 => ?_)
  refine wpT_step 12 rfl (by kernel_rfl) (fun K hK => ?_)
  go_simp
  go_at_call 71
  have hb6 : Below w4.heap.size w4 l2.w := (l.hb.trans (hb5.mono hzl4)).trans (l2.hb.mono (by omega))
  have hown6 := hown4.out.below hb6
  have hz6 := hb6.size
  refine (all_any B _ _ 2 _ rfl _ 3 _ [T, id, fl] _ hown6 (Nat.le_trans hz4 hz6) (by omega) (by simp) (l.w.heap.size + 1) (hiv5.below (l2.hb.mono (by omega))) ?_ (by have := l2.hb.size; omega) (by omega) ?_).mono ?_
  · intro b off he e
    cases he
    have := (hown4.out.lt _ e.symm).2
    omega
  · intro N hN
    simp only [List.mem_cons, List.not_mem_nil, or_false] at hN
    omega
  rintro e w7 ⟨v7, rfl, hown7, hg7⟩
  refine hK _ _ ?_
  clear hK K
  refine wpT_step 13 rfl (by kernel_rfl) (fun K hK => ?_)
  go_simp
  refine hK _ _ ?_
  clear hK K
  refine wpT_done (by kernel_rfl) ?_ 0
  have hb7 : Below B w2 w7 := (hb4.trans (hb6.mono hz4)).trans (hg7.below hown6 (Nat.le_trans hz4 hz6))
  have hz7 : B ≤ w7.heap.size := Nat.le_trans hz2 hb7.size
  have hbox7 := blk_below hb7 hltB hbox2.out
  have hcg7 := blk_cell hbox7
  have hv8 : [Value.int .u8 (ttl : Int), .int .u8 (proto : Int), .int .u8 0, .int .u8 0] = ([UInt8.ofNat ttl, UInt8.ofNat proto, 0, 0] : List UInt8).map u8v := by
    simp only [List.map_cons, List.map_nil]
    rw [u8v_nat _ (by omega), u8v_nat _ (by omega)]
    rfl
  clear hb6 hown6 hg7 hb5 hiv5 hcg2
  replace hb4 := hide hb4
  replace hv8 := hide hv8
  replace hown7 := hide hown7
  replace hb7 := hide hb7
  replace hbox7 := hide hbox7
  replace hsz := hide hsz
  go_wp2_with (at_builtin; refine wpl_lit_bv rfl (.tmp 52) (.tmp 59) rfl B _ _ [UInt8.ofNat ttl, UInt8.ofNat proto, 0, 0] _ _ rfl rfl ?_ ?_ hown7.out ?_ ?_ ?_)
  · exact hv8.out
  · rfl
  · exact hz7
  · simp [allB_length]
  intro v8 w8 hown8 hg8
  have hb8 := hb7.out.trans (hg8.below hown7.out hz7)
  have hz8 := Nat.le_trans hz2 hb8.size
  have hbox8 := blk_below hb8 hltB hbox2.out
  have hcg8 := blk_cell hbox8
  clear hcg7 hg8
  replace hown8 := hide hown8
  replace hb8 := hide hb8
  replace hbox8 := hide hbox8
  go_wp2_with fail
  refine (all_lit B _ _ 4 _ rfl [slo, dlo] _ rfl 2 _ rfl _ _ _ rfl hown8.out hz8 (by omega) (by simp [allB_length]) (by omega) ?_).mono ?_
  · intro N hN
    simp only [List.mem_cons, List.not_mem_nil, or_false] at hN
    omega
  rintro e w9 ⟨v9, rfl, hown9, hg9⟩
  have hb9 := hb8.out.trans (hg9.below hown8.out hz8)
  have hz9 := Nat.le_trans hz2 hb9.size
  have hbox9 := blk_below hb9 hltB hbox2.out
  have hcg9 := blk_cell hbox9
  have h0B : w.heap.size ≤ B := by omega
  have ho9 := ho.out.below (hw2.out.trans (hb9.mono h0B))
  clear hcg8 hg9
  replace hown9 := hide hown9
  replace hb9 := hide hb9
  replace hbox9 := hide hbox9
  replace ho9 := hide ho9
  go_wp2_with (at_builtin; refine wpl_src_bv rfl (.tmp 70) (.tmp 72) rfl B _ _ os A n c w.heap.size rfl rfl hown9.out ho9.out ?_ ?_ ?_)
  · exact hz9
  · simp [allB_length]; omega
  intro v10 w10 hown10 hg10
  have hb10 := hb9.out.trans (hg10.below hown9.out hz9)
  have hz10 := Nat.le_trans hz2 hb10.size
  have hown10' : OwnB w10 B v10 (hdB0 tos id fl ttl proto slo dlo os m) := by
    unfold hdB0
    rw [hno.out, hsz.out, hT]
    simpa [allB] using hown10
  have hlen : (hdB0 tos id fl ttl proto slo dlo os m).length = 20 + n := by rw [hdB0_length, hno.out]
  obtain ⟨A10, c10, rfl, hc10, hm10, hi10⟩ := hown10'.form
  rw [hlen] at hc10 hi10 hown10' ⊢
  clear hg10 hown10 hcg9
  replace hown10' := hide hown10'
  replace hi10 := hide hi10
  replace hlen := hide hlen
  replace hb10 := hide hb10
  go_wp2_with fail
  refine (Sum.check_any _ _ _ [⟨A10, c10, hdB0 tos id fl ttl proto slo dlo os m⟩] _ (isP_one _ rfl hi10.out (by unfold maxLen; omega)) (by unfold maxLen; omega)).mono ?_
  rintro e w' ⟨rfl, rfl⟩
  have hfl1 : Sum.flat [(⟨A10, c10, hdB0 tos id fl ttl proto slo dlo os m⟩ : Sum.Part)] = hdB0 tos id fl ttl proto slo dlo os m := by simp [Sum.flat]
  rw [hfl1]
  clear hfl1
  obtain ⟨C, hC⟩ : ∃ C, 65535 - Sum.ones (Sum.tot false (hdB0 tos id fl ttl proto slo dlo os m)) = C := ⟨_, rfl⟩
  rw [hC]
  have hCl : C ≤ 65535 := by omega
  replace hC := hide hC
  go_wp2_with fail
  refine (set_in A10 (20 + n) c10 (hdB0 tos id fl ttl proto slo dlo os m) 10 C 2 _ _ _ rfl rfl rfl _ (hi10.out.alloc _) (by omega) (by omega) (by omega) (by omega) (by omega)).mono ?_
  rintro e w11 ⟨v11, rfl, hown11, hb11⟩
  have hb11' : Below w10.heap.size w10 w11 := ((Below.refl _ _).alloc (Nat.le_refl _) _).trans (hb11.mono (by simp))
  have hB11 := hb10.out.trans (hb11'.mono hz10)
  have hown11' : OwnB w11 B v11 (hdB tos id fl ttl proto slo dlo os m) := by
    have h1 := hown11.weaken (base' := B) (by simp; omega)
    unfold hdB
    rw [hC.out]
    exact h1
  have hz11 := Nat.le_trans hz2 hB11.size
  have hp11 := hp.out.below (hw2.out.trans (hB11.mono h0B))
  have hlen2 : (hdB tos id fl ttl proto slo dlo os m).length + m ≤ 1099511627776 := by
    rw [hdB_length, hno.out]
    omega
  clear hown11 hb11 hb11'
  replace hown11' := hide hown11'
  replace hp11 := hide hp11
  replace hB11 := hide hB11
  go_wp2_with (at_builtin; refine wpl_src_bv rfl (.tmp 80) (.tmp 81) rfl B _ _ ps P m d w.heap.size rfl rfl hown11'.out hp11.out ?_ ?_ ?_)
  · exact hz11
  · exact hlen2
  intro v12 w12 hown12 hg12
  have hb12 := hw2.out.trans ((hB11.out.trans (hg12.below hown11'.out hz11)).mono h0B)
  replace hown12 := hide hown12
  replace hb12 := hide hb12
  clear hg12
  go_wp2_with fail
  go_ret2
  exact ⟨v12, rfl, hown12.out.weaken h0B, hb12.out⟩
end Four
end Go.Proofs.Ytfmmmjaficbchaa
