/- Plain: a header's bytes, made again of what was read of them. No condition. -/
import Derived.Test.YtdmgbngdpjcliaaSixBytes
namespace Go.Proofs.Ytdmgbngdpjcliaa
open Go.RowKit Go.ChangeShapes Go.WideShapes Go.ChangeAt Go.Deep
theorem beB_snoc (a b : Nat) (hb : b < 256) : ∀ k, beB (a * 256 + b) (k + 1) = beB a k ++ [UInt8.ofNat b]
  | 0 => by
    simp only [beB, List.nil_append, Nat.pow_zero, Nat.div_one]
    rw [Six.of8 (show (a * 256 + b) % 256 = b % 256 by omega)]
  | k + 1 => by
    have ih := beB_snoc a b hb k
    rw [beB, ih, beB, List.cons_append]
    congr 2
    rw [Nat.pow_succ, Nat.mul_comm (256 ^ k) 256, ← Nat.div_div_eq_div_mul]
    congr 1
    omega
theorem beB_beN (xs : List UInt8) (p : Nat) : ∀ k, p + k ≤ xs.length → beB (beN xs p k) k = (xs.drop p).take k
  | 0, _ => by simp [beB]
  | k + 1, h => by
    have ih := beB_beN xs p k (by omega)
    have hlt := (xs.getD (p + k) 0).toNat_lt
    rw [beN, beB_snoc _ _ (by omega), ih, List.take_add_one, List.getElem?_drop]
    congr 1
    have h1 : xs[p + k]? = some xs[p + k] := List.getElem?_eq_getElem (by omega)
    simp [List.getD, h1]
namespace Six
theorem cons_of8 (xs : List UInt8) (h : 8 ≤ xs.length) : ∃ x0 x1 x2 x3 x4 x5 x6 x7 tl, xs = x0 :: x1 :: x2 :: x3 :: x4 :: x5 :: x6 :: x7 :: tl := by
  match xs, h with
  | x0 :: x1 :: x2 :: x3 :: x4 :: x5 :: x6 :: x7 :: tl, _ => exact ⟨x0, x1, x2, x3, x4, x5, x6, x7, tl, rfl⟩
theorem of8' {a : Nat} {x : UInt8} (h : a % 256 = x.toNat) : UInt8.ofNat a = x := by
  apply UInt8.toNat.inj
  rw [UInt8.toNat_ofNat']
  exact h
theorem hd8_again (xs : List UInt8) (h : 8 ≤ xs.length) (hv : (xs.getD 0 0).toNat / 16 = 6) :
    hd8 (beN xs 0 4 / 1048576 % 256) (beN xs 0 4 % 1048576) (xs.getD 7 0).toNat (xs.getD 6 0).toNat (beN xs 4 2) = xs.take 8 := by
  obtain ⟨x0, x1, x2, x3, x4, x5, x6, x7, tl, rfl⟩ := cons_of8 xs h
  have b0 := x0.toNat_lt
  have b1 := x1.toNat_lt
  have b2 := x2.toNat_lt
  have b3 := x3.toNat_lt
  have b4 := x4.toNat_lt
  have b5 := x5.toNat_lt
  have b6 := x6.toNat_lt
  have b7 := x7.toNat_lt
  have e1 : beN (x0 :: x1 :: x2 :: x3 :: x4 :: x5 :: x6 :: x7 :: tl) 0 4 = ((x0.toNat * 256 + x1.toNat) * 256 + x2.toNat) * 256 + x3.toNat := by simp [beN]
  have e2 : beN (x0 :: x1 :: x2 :: x3 :: x4 :: x5 :: x6 :: x7 :: tl) 4 2 = x4.toNat * 256 + x5.toNat := by simp [beN]
  have hv' : x0.toNat / 16 = 6 := by simpa using hv
  have e6 : ((x0 :: x1 :: x2 :: x3 :: x4 :: x5 :: x6 :: x7 :: tl).getD 6 0) = x6 := rfl
  have e7 : ((x0 :: x1 :: x2 :: x3 :: x4 :: x5 :: x6 :: x7 :: tl).getD 7 0) = x7 := rfl
  rw [e1, e2, e6, e7]
  unfold hd8
  simp only [List.take_succ_cons, List.take_zero]
  refine list8 (of8' ?_) (of8' ?_) (of8' ?_) (of8' ?_) (of8' ?_) (of8' ?_) (of8' ?_) (of8' ?_) <;> omega
theorem head_again (xs : List UInt8) (h : 40 ≤ xs.length) (hv : (xs.getD 0 0).toNat / 16 = 6) :
    hd8 (beN xs 0 4 / 1048576 % 256) (beN xs 0 4 % 1048576) (xs.getD 7 0).toNat (xs.getD 6 0).toNat (beN xs 4 2) ++ addrB true (beN xs 8 8) (beN xs 16 8) ++ addrB true (beN xs 24 8) (beN xs 32 8) = xs.take 40 := by
  rw [hd8_again xs (by omega) hv]
  simp only [addrB, if_true]
  rw [beB_beN xs 8 8 (by omega), beB_beN xs 16 8 (by omega), beB_beN xs 24 8 (by omega), beB_beN xs 32 8 (by omega)]
  rw [show xs.take 40 = xs.take 8 ++ ((xs.drop 8).take 8 ++ ((xs.drop 16).take 8 ++ ((xs.drop 24).take 8 ++ (xs.drop 32).take 8))) from ?_]
  · simp
  · rw [show 40 = 8 + (8 + (8 + (8 + 8))) from rfl, List.take_add, List.take_add, List.take_add, List.take_add, List.drop_drop, List.drop_drop, List.drop_drop]
/-- The bytes of what was parsed. -/
theorem all_again (xs : List UInt8) (sz : Nat) (acc : List (Int × List UInt8)) (next : Nat) (rest : List UInt8) (h : 40 + sz ≤ xs.length) (hv : (xs.getD 0 0).toNat / 16 = 6) (hsz : beN xs 4 2 = sz)
    (hn : nextP acc (next : Int) = ((xs.getD 6 0).toNat : Int)) (hb : (xs.take (40 + sz)).drop 40 = extB acc (next : Int) ++ rest) :
    allB6 (beN xs 0 4 / 1048576 % 256) (beN xs 0 4 % 1048576) (xs.getD 7 0).toNat (beN xs 8 8) (beN xs 16 8) (beN xs 24 8) (beN xs 32 8) next acc rest = xs.take (40 + sz) := by
  have hl : (extB acc (next : Int) ++ rest).length = sz := by
    rw [← hb, List.length_drop, List.length_take]
    omega
  unfold allB6
  rw [hl, hn, Int.toNat_natCast, ← hsz, head_again xs (by omega) hv, hsz, ← hb]
  conv => rhs; rw [← List.take_append_drop 40 (xs.take (40 + sz))]
  rw [List.take_take, Nat.min_eq_left (by omega)]
theorem rightTo_len {es : List (Int × List UInt8)} (h : rightTo es es.length = true) : ∀ e ∈ es, e.2.length ≤ 2047 := by
  intro e he
  obtain ⟨i, hi, rfl⟩ := List.getElem_of_mem he
  have h1 := rightTo_le _ h (k := i + 1) (by omega)
  rw [rightTo_succ _ i _ (List.getElem?_eq_getElem hi)] at h1
  simp only [Bool.and_eq_true] at h1
  have h2 := h1.2.1
  unfold rightExtB at h2
  simp only [Bool.and_eq_true, decide_eq_true_eq] at h2
  exact h2.2.2.2.1
theorem Ends.form {k : Nat} {R : Option (List (Int × List UInt8) × Nat × List UInt8)} {cls lab hop shi slo dhi dlo : Nat} {w w' : World} {e : Ending} (h : Ends k R cls lab hop shi slo dhi dlo w w' e) :
    ∃ (cl la ho : Int) (b1 : Bool) (sh sl : Int) (b2 : Bool) (dh dl : Int) (X : Option Addr) (m xc nx : Nat) (A2 : Option Addr) (n2 c2 : Nat) (es : List Ext) (rest : List UInt8),
      e = .returned (.tuple #[hdV cl la ho b1 sh sl b2 dh dl X m xc nx, .slice A2 n2 c2, .int .i64 (k : Int)]) ∧ IsX w' w'.heap.size X m es ∧ m ≤ xc ∧ xc ≤ maxLen ∧ IsB w' w'.heap.size A2 n2 rest ∧ n2 ≤ c2 ∧ c2 ≤ maxLen ∧
      (k ≠ 0 → cl = 0 ∧ la = 0 ∧ ho = 0 ∧ b1 = false ∧ sh = 0 ∧ sl = 0 ∧ b2 = false ∧ dh = 0 ∧ dl = 0 ∧ X = none ∧ m = 0 ∧ xc = 0 ∧ nx = 0 ∧ A2 = none ∧ n2 = 0 ∧ c2 = 0) ∧
      (k = 0 → R = some (pes es, nx, rest) ∧ cl = cls ∧ la = lab ∧ ho = hop ∧ b1 = true ∧ sh = shi ∧ sl = slo ∧ b2 = true ∧ dh = dhi ∧ dl = dlo) ∧ Below w.heap.size w w' := by
  obtain ⟨h1, h2, h3⟩ := h
  by_cases hk : k = 0
  · obtain ⟨acc, next, rest, hR, X, xc, es, A2, c2, he, hes, hX, hr⟩ := h2 hk
    obtain ⟨hx1, hx2, hx3⟩ := hX.isX
    obtain ⟨_, r1, r2, r3⟩ := hr.reads
    subst hk
    exact ⟨cls, lab, hop, true, shi, slo, true, dhi, dlo, X, es.length, xc, next, A2, rest.length, c2, es, rest, he, hx1, hx2, hx3, r3, r1, r2, fun h => absurd rfl h, fun _ => ⟨by rw [hR, ← hes]; rfl, rfl, rfl, rfl, rfl, rfl, rfl, rfl, rfl, rfl⟩, h3⟩
  · exact ⟨0, 0, 0, false, 0, 0, false, 0, 0, none, 0, 0, 0, none, 0, 0, [], [], h1 hk, IsX.nil _ _ _, by omega, by unfold maxLen; omega, IsB.nil _ _ _, by omega, by unfold maxLen; omega, fun _ => ⟨rfl, rfl, rfl, rfl, rfl, rfl, rfl, rfl, rfl, rfl, rfl, rfl, rfl, rfl, rfl, rfl⟩, fun h => absurd h hk, h3⟩
end Six
end Go.Proofs.Ytdmgbngdpjcliaa
