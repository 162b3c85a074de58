/- Plain law: a header that was parsed, as bytes again, is what it was parsed of, but for its check. Conditions: bytes that are a packet. -/
import Derived.Test.YtdmgbngdpjcliaaFourLawBytes
import Derived.Test.YtdmgbngdpjcliaaBePlain
namespace Go.Proofs.Ytdmgbngdpjcliaa
namespace Four
theorem be_two (a b : UInt8) : beB (a.toNat * 256 + b.toNat) 2 = [a, b] := by
  have hb := b.toNat_lt
  have ha := a.toNat_lt
  simp only [beB, Nat.pow_one, Nat.pow_zero, Nat.div_one]
  congr 1
  · apply UInt8.toNat_inj.1; rw [UInt8.toNat_ofNat']; omega
  · congr 1
    apply UInt8.toNat_inj.1; rw [UInt8.toNat_ofNat']; omega
theorem be_four (a b c d : UInt8) : beB (((a.toNat * 256 + b.toNat) * 256 + c.toNat) * 256 + d.toNat) 4 = [a, b, c, d] := by
  rw [beB_four]
  have hb := b.toNat_lt
  have ha := a.toNat_lt
  have hc := c.toNat_lt
  have hd := d.toNat_lt
  rw [show (((a.toNat * 256 + b.toNat) * 256 + c.toNat) * 256 + d.toNat) / 65536 = a.toNat * 256 + b.toNat by omega, show (((a.toNat * 256 + b.toNat) * 256 + c.toNat) * 256 + d.toNat) % 65536 = c.toNat * 256 + d.toNat by omega, be_two, be_two]
  rfl
theorem cons_of {n : Nat} {xs : List UInt8} (h : n + 1 ≤ xs.length) : ∃ a tl, xs = a :: tl ∧ n ≤ tl.length := by
  rcases xs with _ | ⟨a, tl⟩
  · simp at h
  · exact ⟨a, tl, rfl, by simpa using h⟩
theorem cut20 (xs : List UInt8) (h : 20 ≤ xs.length) : ∃ x0 x1 x2 x3 x4 x5 x6 x7 x8 x9 x10 x11 x12 x13 x14 x15 x16 x17 x18 x19 tl, xs = x0 :: x1 :: x2 :: x3 :: x4 :: x5 :: x6 :: x7 :: x8 :: x9 :: x10 :: x11 :: x12 :: x13 :: x14 :: x15 :: x16 :: x17 :: x18 :: x19 :: tl := by
  obtain ⟨x0, t0, rfl, h0⟩ := cons_of (n := 19) h
  obtain ⟨x1, t1, rfl, h1⟩ := cons_of (n := 18) h0
  obtain ⟨x2, t2, rfl, h2⟩ := cons_of (n := 17) h1
  obtain ⟨x3, t3, rfl, h3⟩ := cons_of (n := 16) h2
  obtain ⟨x4, t4, rfl, h4⟩ := cons_of (n := 15) h3
  obtain ⟨x5, t5, rfl, h5⟩ := cons_of (n := 14) h4
  obtain ⟨x6, t6, rfl, h6⟩ := cons_of (n := 13) h5
  obtain ⟨x7, t7, rfl, h7⟩ := cons_of (n := 12) h6
  obtain ⟨x8, t8, rfl, h8⟩ := cons_of (n := 11) h7
  obtain ⟨x9, t9, rfl, h9⟩ := cons_of (n := 10) h8
  obtain ⟨x10, t10, rfl, h10⟩ := cons_of (n := 9) h9
  obtain ⟨x11, t11, rfl, h11⟩ := cons_of (n := 8) h10
  obtain ⟨x12, t12, rfl, h12⟩ := cons_of (n := 7) h11
  obtain ⟨x13, t13, rfl, h13⟩ := cons_of (n := 6) h12
  obtain ⟨x14, t14, rfl, h14⟩ := cons_of (n := 5) h13
  obtain ⟨x15, t15, rfl, h15⟩ := cons_of (n := 4) h14
  obtain ⟨x16, t16, rfl, h16⟩ := cons_of (n := 3) h15
  obtain ⟨x17, t17, rfl, h17⟩ := cons_of (n := 2) h16
  obtain ⟨x18, t18, rfl, h18⟩ := cons_of (n := 1) h17
  obtain ⟨x19, t19, rfl, h19⟩ := cons_of (n := 0) h18
  exact ⟨x0, x1, x2, x3, x4, x5, x6, x7, x8, x9, x10, x11, x12, x13, x14, x15, x16, x17, x18, x19, t19, rfl⟩
/-- The bytes again, but for the check. -/
theorem again (xs : List UInt8) (s al : Nat) (h20 : 20 ≤ xs.length) (hv : (xs.getD 0 0).toNat / 16 = 4) (hs : (xs.getD 0 0).toNat % 16 * 4 = s) (h5 : 20 ≤ s) (h6 : s ≤ xs.length) (hal : beN xs 2 2 = al) (h8 : s ≤ al) (h9 : al ≤ xs.length) :
    ∃ a b : UInt8, hdB (xs.getD 1 0).toNat (beN xs 4 2) (beN xs 6 2) (xs.getD 8 0).toNat (xs.getD 9 0).toNat (beN xs 12 4) (beN xs 16 4) ((xs.take s).drop 20) (al - s) ++ (xs.take al).drop s = ((xs.take al).set 10 a).set 11 b := by
  obtain ⟨C, hC⟩ : ∃ C, 65535 - Sum.ones (Sum.tot false (hdB0 (xs.getD 1 0).toNat (beN xs 4 2) (beN xs 6 2) (xs.getD 8 0).toNat (xs.getD 9 0).toNat (beN xs 12 4) (beN xs 16 4) ((xs.take s).drop 20) (al - s))) = C := ⟨_, rfl⟩
  refine ⟨UInt8.ofNat (C / 256), UInt8.ofNat C, ?_⟩
  rw [hdB_set _ _ _ _ _ _ _ _ _ _ hC]
  clear hC
  obtain ⟨x0, x1, x2, x3, x4, x5, x6, x7, x8, x9, x10, x11, x12, x13, x14, x15, x16, x17, x18, x19, tl, rfl⟩ := cut20 xs h20
  obtain ⟨t, rfl⟩ : ∃ t, s = t + 20 := ⟨s - 20, by omega⟩
  obtain ⟨m, rfl⟩ : ∃ m, al = m + t + 20 := ⟨al - t - 20, by omega⟩
  simp only [List.getD_cons_zero] at hv hs
  have htl : t ≤ tl.length := by simp at h6; omega
  have hol : (((x0 :: x1 :: x2 :: x3 :: x4 :: x5 :: x6 :: x7 :: x8 :: x9 :: x10 :: x11 :: x12 :: x13 :: x14 :: x15 :: x16 :: x17 :: x18 :: x19 :: tl).take (t + 20)).drop 20).length = t := by
    rw [List.length_drop, List.length_take]; simp; omega
  have e0 : UInt8.ofNat (64 + (20 + t) / 4) = x0 := by
    apply UInt8.toNat_inj.1
    rw [UInt8.toNat_ofNat']
    omega
  have e2 : beB (m + t + 20) 2 = [x2, x3] := by
    rw [← hal]
    simp only [beN, List.getD_cons_zero, List.getD_cons_succ, Nat.zero_mul, Nat.zero_add, Nat.add_zero, Nat.reduceAdd]
    exact be_two _ _
  unfold hdB0
  rw [hol, e0, show 20 + t + (m + t + 20 - (t + 20)) = m + t + 20 by omega, e2]
  simp only [beN, List.getD_cons_zero, List.getD_cons_succ, Nat.zero_mul, Nat.zero_add, Nat.add_zero, Nat.reduceAdd]
  rw [be_two, be_two, be_four, be_four]
  have e1 : UInt8.ofNat x1.toNat = x1 := by simp
  have e8 : UInt8.ofNat x8.toNat = x8 := by simp
  have e9 : UInt8.ofNat x9.toNat = x9 := by simp
  rw [e1, e8, e9]
  simp only [List.cons_append, List.nil_append, List.set_cons_zero, List.set_cons_succ, List.take_succ_cons, List.drop_succ_cons, List.drop_zero]
  have e3 : tl.take t ++ (tl.take (m + t)).drop t = tl.take (m + t) := by
    conv => rhs; rw [← List.take_append_drop t (tl.take (m + t)), List.take_take, Nat.min_eq_left (by omega)]
  rw [e3]
theorem again_get (ys zs : List UInt8) (a b : UInt8) (h : ys = (zs.set 10 a).set 11 b) (i : Nat) (h10 : i ≠ 10) (h11 : i ≠ 11) : ys[i]? = zs[i]? := by
  subst h
  rw [List.getElem?_set_ne (by omega), List.getElem?_set_ne (by omega)]
theorem flI_raw (fl : Nat) (h : fl / 32768 = 0) : flI (decide (fl / 16384 % 2 = 1)) (decide (fl / 8192 % 2 = 1)) (fl % 8192) = (fl : Int) := by
  unfold flI
  by_cases h1 : fl / 16384 % 2 = 1 <;> by_cases h2 : fl / 8192 % 2 = 1 <;> simp [h1, h2] <;> omega
end Four
end Go.Proofs.Ytdmgbngdpjcliaa
