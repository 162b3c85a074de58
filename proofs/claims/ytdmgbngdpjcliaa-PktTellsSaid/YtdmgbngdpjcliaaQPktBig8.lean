/- udp.Right and udp.Bytes by contract, for headers with a check. Conditions: slices of bytes that read as lists, below 65536 bytes. -/
import Derived.Test.YtdmgbngdpjcliaaQPktBig3
import Derived.Test.YtdmgbngdpjcliaaQPktBig7
import Derived.Test.YtdmgbngdpjcliaaQPktBig4
import Derived.Deep.DeepCutAuto
namespace Go.Proofs.Ytdmgbngdpjcliaa
open Go.RowKit Go.ChangeShapes Go.WideShapes Go.ChangeAt Go.Deep
namespace Udp
/-- Whether a header may be. -/
def rightP (s d : Int) : Bool := decide (0 ≤ s ∧ s ≤ 65535 ∧ 0 ≤ d ∧ d ≤ 65535)
theorem right_any (s d : Int) (bare : Bool) (w : World) (r : Bool) (hr : rightP s d = r) :
    Calls Try.prog 91 #[.agg #[.int .i64 s, .int .i64 d, .bool bare]] w fun e w' => e = .returned (.bool r) ∧ Below w.heap.size w w' := by
  have hB : Below w.heap.size w (w.alloc (.cells #[.int .i64 s, .int .i64 d, .bool bare] 96)) := (Below.refl _ _).alloc (Nat.le_refl _) _
  unfold rightP at hr
  replace hB := hide hB
  replace hr := hide hr
  by_cases h1 : 0 ≤ s
  · by_cases h2 : s ≤ 65535
    · by_cases h3 : 0 ≤ d
      · by_cases h4 : d ≤ 65535
        · go_enter Try.func91, Try.ntmps91
          go_wp2
          go_ret
          exact ⟨by rw [← hr.out]; simp [*], hB.out⟩
        · go_enter Try.func91, Try.ntmps91
          go_wp2
          go_ret
          exact ⟨by rw [← hr.out]; simp [*], hB.out⟩
      · go_enter Try.func91, Try.ntmps91
        go_wp2
        go_ret
        exact ⟨by rw [← hr.out, decide_eq_false (by omega)]; rfl, hB.out⟩
    · go_enter Try.func91, Try.ntmps91
      go_wp2
      go_ret
      exact ⟨by rw [← hr.out, decide_eq_false (by omega)]; rfl, hB.out⟩
  · go_enter Try.func91, Try.ntmps91
    go_wp2
    go_ret
    exact ⟨by rw [← hr.out, decide_eq_false (by omega)]; rfl, hB.out⟩
theorem bytes_no (s d : Int) (A : Option Addr) (n c : Nat) (P : Option Addr) (m e : Nat) (w : World) (h : rightP s d = false) :
    Calls Try.prog 68 #[.agg #[.int .i64 s, .int .i64 d, .bool false], .slice A n c, .slice P m e] w fun e w' => e = .returned (.tuple #[.slice none 0 0, .int .i64 1]) ∧ Below w.heap.size w w' := by
  go_enter Try.func68, Try.ntmps68
  go_wp2_with fail
  refine (right_any s d false _ false h).mono ?_
  rintro e w1 ⟨rfl, hb⟩
  go_wp2_with fail
  go_ret2
  exact ⟨rfl, ((Below.refl _ _).alloc (Nat.le_refl _) _).trans (hb.mono (by simp))⟩
/-- A datagram's bytes, the check's two still 0. -/
def dg0 (s d : Nat) (xs : List UInt8) : List UInt8 := allB 2 [s, d, 8 + xs.length, 0] ++ xs
def ckP (c : Nat) : Nat := if c = 0 then 65535 else c
def dgB (ps : List UInt8) (s d : Nat) (xs : List UInt8) : List UInt8 := setB (dg0 s d xs) 6 (beB (ckP (65535 - Sum.ones (Sum.tot false (ps ++ dg0 s d xs)))) 2)
theorem dg0_length (s d : Nat) (xs : List UInt8) : (dg0 s d xs).length = 8 + xs.length := by simp [dg0, allB_length]
set_option maxRecDepth 8000 in
set_option maxHeartbeats 4000000 in
theorem bytes_yes (s d : Nat) (A : Option Addr) (n c : Nat) (P : Option Addr) (m e : Nat) (xs ps : List UInt8) (w : World) (hs : s ≤ 65535) (hd : d ≤ 65535) (hx : IsB w w.heap.size A n xs) (hp : IsB w w.heap.size P m ps) (hn : 8 + n ≤ 65535) (hm : m ≤ maxLen) :
    Calls Try.prog 68 #[.agg #[.int .i64 (s : Int), .int .i64 (d : Int), .bool false], .slice A n c, .slice P m e] w fun e w' => ∃ v, e = .returned (.tuple #[v, .int .i64 0]) ∧ OwnB w' w.heap.size v (dgB ps s d xs) ∧ Below w.heap.size w w' := by
  have hxl := hx.1
  have hR : rightP (s : Int) (d : Int) = true := by unfold rightP; rw [decide_eq_true_eq]; omega
  replace hx := hide hx
  replace hp := hide hp
  replace hxl := hide hxl
  replace hR := hide hR
  go_enter Try.func68, Try.ntmps68
  go_wp2_with fail
  refine (right_any s d false _ true hR.out).mono ?_
  rintro e w1 ⟨rfl, hb1⟩
  have hblk1 := blk_below hb1 (by simp) (blk_new w 96 #[.int .i64 (s : Int), .int .i64 (d : Int), .bool false])
  have hbw1 : Below w.heap.size w w1 := ((Below.refl _ _).alloc (Nat.le_refl _) _).trans (hb1.mono (by simp))
  have hz1 := hb1.size
  simp only [World.size_alloc] at hz1
  have hlt1 : w.heap.size < w1.heap.size := by omega
  have hcell1 := blk_cell hblk1
  replace hb1 := hide hb1
  replace hbw1 := hide hbw1
  replace hblk1 := hide hblk1
  go_wp2_with fail
  refine (all_lit w1.heap.size _ [] 2 _ rfl [s, d, 8 + n, 0] _ ?_ 4 _ rfl _ w1 _ rfl (OwnB.nil _ _) (Nat.le_refl _) (by omega) (by simp) (by omega) ?_).mono ?_
  · simp [u64v]
  · intro N hN
    simp only [List.mem_cons, List.not_mem_nil, or_false] at hN
    omega
  rintro e w2 ⟨v2, rfl, hown2, hg2⟩
  rw [List.nil_append] at hown2
  have hb2 := hg2.below (OwnB.nil _ _) (Nat.le_refl _)
  have hz2 := hb2.size
  have hblk2 := blk_below hb2 hlt1 hblk1.out
  have hcell2 := blk_cell hblk2
  have hx2 := (hx.out.on hbw1.out).on hb2
  clear hcell1 hg2
  replace hown2 := hide hown2
  replace hb2 := hide hb2
  replace hx2 := hide hx2
  replace hblk2 := hide hblk2
  go_wp2_with (at_builtin; refine wpl_src_bv rfl (.tmp 31) (.tmp 32) rfl w1.heap.size _ _ xs _ _ _ w2.heap.size rfl rfl hown2.out hx2.out ?_ ?_ ?_)
  · omega
  · simp only [allB_length, List.length_cons, List.length_nil]; omega
  intro v3 w3 hown3 hg3
  have hown3' : OwnB w3 w1.heap.size v3 (dg0 s d xs) := by rw [dg0, hxl.out]; exact hown3
  clear hown3
  obtain ⟨A3, c3, rfl, hc3, hm3, hi3⟩ := hown3'.form
  rw [dg0_length, hxl.out] at hc3 hi3 hown3' ⊢
  have hb3 := hg3.below hown2.out (by omega)
  have hz3 := hb3.size
  have hb13 : Below w1.heap.size w1 w3 := hb2.out.trans (hb3.mono (by omega))
  have hbw3 : Below w.heap.size w w3 := hbw1.out.trans (hb13.mono (by omega))
  have hblk3 := blk_below hb13 hlt1 hblk1.out
  have hcell3 := blk_cell hblk3
  have hp3 := hp.out.on hbw3
  have hps := Icmp.isP_two' w3.heap.size rfl (t := 22) (c := c3) (d := e) hi3 hp3 (by unfold maxLen; omega) hm
  have hi4 := hi3.alloc (.cells #[.slice P m e, .slice A3 (8 + n) c3] 22)
  have hle := Sum.ones_le (Sum.tot false (ps ++ dg0 s d xs))
  have hfl : Sum.flat [⟨P, e, ps⟩, ⟨A3, c3, dg0 s d xs⟩] = ps ++ dg0 s d xs := by simp [Sum.flat]
  obtain ⟨T, hT⟩ : ∃ T, 65535 - Sum.ones (Sum.tot false (ps ++ dg0 s d xs)) = T := ⟨_, rfl⟩
  rw [← hfl] at hT
  have hTl : T ≤ 65535 := by omega
  replace hps := hide hps
  replace hi3 := hide hi3
  replace hi4 := hide hi4
  replace hown3' := hide hown3'
  replace hg3 := hide hg3
  replace hb3 := hide hb3
  replace hbw3 := hide hbw3
  replace hp3 := hide hp3
  replace hfl := hide hfl
  replace hT := hide hT
  replace hblk3 := hide hblk3
  clear hcell2 hle
  go_wp2_with fail
  refine (Sum.check_any _ _ _ _ _ hps.out (by unfold maxLen; omega)).mono ?_
  rintro e w' ⟨rfl, rfl⟩
  rw [hT.out]
  have hfin : ∀ (N : Nat), ckP T = N → N ≤ 65535 → Calls Try.prog 81 #[.slice A3 (8 + n) c3, .int .i64 6, .int .u64 (N : Int), .int .i64 2] (w3.alloc (.cells #[.slice P m e, .slice A3 (8 + n) c3] 22)) fun e w' => ∃ v, e = .returned v ∧ OwnB w' w.heap.size v (dgB ps s d xs) ∧ Below w.heap.size w w' := by
    intro N hN hN2
    refine (set_in A3 (8 + n) c3 (dg0 s d xs) 6 N 2 _ _ _ rfl rfl rfl _ hi4.out (by omega) (by omega) (by omega) (by omega) (by omega)).mono ?_
    rintro e w4 ⟨v4, rfl, hown4, hb4⟩
    refine ⟨v4, rfl, ?_, (hbw3.out.alloc (by omega) _).trans (hb4.mono (by simp; omega))⟩
    have h1 := hown4.weaken (base' := w.heap.size) (by simp; omega)
    unfold dgB
    rw [← hfl.out, hT.out, hN]
    exact h1
  replace hfin := hide hfin
  by_cases hT0 : T = 0
  · have hf := hfin.out 65535 (by rw [hT0]; rfl) (by omega)
    subst hT0
    replace hf := hide hf
    go_wp2_with fail
    refine hf.out.mono ?_
    rintro e w4 ⟨v4, rfl, h4⟩
    replace h4 := hide h4
    go_wp2_with fail
    go_ret2
    exact ⟨v4, rfl, h4.out⟩
  · have hf := hfin.out T (by unfold ckP; rw [if_neg hT0]) hTl
    replace hf := hide hf
    go_wp2_with fail
    refine hf.out.mono ?_
    rintro e w4 ⟨v4, rfl, h4⟩
    replace h4 := hide h4
    go_wp2_with fail
    go_ret2
    exact ⟨v4, rfl, h4.out⟩
end Udp
end Go.Proofs.Ytdmgbngdpjcliaa
/- Plain law: a header that was parsed, as bytes again, is what it was parsed of, but for its check. Conditions: bytes that are a packet. -/
namespace Go.Proofs.Ytdmgbngdpjcliaa
namespace Four
theorem be_two (a b : UInt8) : beB (a.toNat * 256 + b.toNat) 2 = [a, b] := by
  have hb := b.toNat_lt
  have ha := a.toNat_lt
  simp only [beB, Nat.pow_one, Nat.pow_zero, Nat.div_one]
  congr 1
  · apply UInt8.toNat_inj.1; rw [UInt8.toNat_ofNat']; omega
  · congr 1
    apply UInt8.toNat_inj.1; rw [UInt8.toNat_ofNat']; omega
theorem be_four (a b c d : UInt8) : beB (((a.toNat * 256 + b.toNat) * 256 + c.toNat) * 256 + d.toNat) 4 = [a, b, c, d] := by
  rw [beB_four]
  have hb := b.toNat_lt
  have ha := a.toNat_lt
  have hc := c.toNat_lt
  have hd := d.toNat_lt
  rw [show (((a.toNat * 256 + b.toNat) * 256 + c.toNat) * 256 + d.toNat) / 65536 = a.toNat * 256 + b.toNat by omega, show (((a.toNat * 256 + b.toNat) * 256 + c.toNat) * 256 + d.toNat) % 65536 = c.toNat * 256 + d.toNat by omega, be_two, be_two]
  rfl
theorem cons_of {n : Nat} {xs : List UInt8} (h : n + 1 ≤ xs.length) : ∃ a tl, xs = a :: tl ∧ n ≤ tl.length := by
  rcases xs with _ | ⟨a, tl⟩
  · simp at h
  · exact ⟨a, tl, rfl, by simpa using h⟩
theorem cut20 (xs : List UInt8) (h : 20 ≤ xs.length) : ∃ x0 x1 x2 x3 x4 x5 x6 x7 x8 x9 x10 x11 x12 x13 x14 x15 x16 x17 x18 x19 tl, xs = x0 :: x1 :: x2 :: x3 :: x4 :: x5 :: x6 :: x7 :: x8 :: x9 :: x10 :: x11 :: x12 :: x13 :: x14 :: x15 :: x16 :: x17 :: x18 :: x19 :: tl := by
  obtain ⟨x0, t0, rfl, h0⟩ := cons_of (n := 19) h
  obtain ⟨x1, t1, rfl, h1⟩ := cons_of (n := 18) h0
  obtain ⟨x2, t2, rfl, h2⟩ := cons_of (n := 17) h1
  obtain ⟨x3, t3, rfl, h3⟩ := cons_of (n := 16) h2
  obtain ⟨x4, t4, rfl, h4⟩ := cons_of (n := 15) h3
  obtain ⟨x5, t5, rfl, h5⟩ := cons_of (n := 14) h4
  obtain ⟨x6, t6, rfl, h6⟩ := cons_of (n := 13) h5
  obtain ⟨x7, t7, rfl, h7⟩ := cons_of (n := 12) h6
  obtain ⟨x8, t8, rfl, h8⟩ := cons_of (n := 11) h7
  obtain ⟨x9, t9, rfl, h9⟩ := cons_of (n := 10) h8
  obtain ⟨x10, t10, rfl, h10⟩ := cons_of (n := 9) h9
  obtain ⟨x11, t11, rfl, h11⟩ := cons_of (n := 8) h10
  obtain ⟨x12, t12, rfl, h12⟩ := cons_of (n := 7) h11
  obtain ⟨x13, t13, rfl, h13⟩ := cons_of (n := 6) h12
  obtain ⟨x14, t14, rfl, h14⟩ := cons_of (n := 5) h13
  obtain ⟨x15, t15, rfl, h15⟩ := cons_of (n := 4) h14
  obtain ⟨x16, t16, rfl, h16⟩ := cons_of (n := 3) h15
  obtain ⟨x17, t17, rfl, h17⟩ := cons_of (n := 2) h16
  obtain ⟨x18, t18, rfl, h18⟩ := cons_of (n := 1) h17
  obtain ⟨x19, t19, rfl, h19⟩ := cons_of (n := 0) h18
  exact ⟨x0, x1, x2, x3, x4, x5, x6, x7, x8, x9, x10, x11, x12, x13, x14, x15, x16, x17, x18, x19, t19, rfl⟩
/-- The bytes again, but for the check. -/
theorem again (xs : List UInt8) (s al : Nat) (h20 : 20 ≤ xs.length) (hv : (xs.getD 0 0).toNat / 16 = 4) (hs : (xs.getD 0 0).toNat % 16 * 4 = s) (h5 : 20 ≤ s) (h6 : s ≤ xs.length) (hal : beN xs 2 2 = al) (h8 : s ≤ al) (h9 : al ≤ xs.length) :
    ∃ a b : UInt8, hdB (xs.getD 1 0).toNat (beN xs 4 2) (beN xs 6 2) (xs.getD 8 0).toNat (xs.getD 9 0).toNat (beN xs 12 4) (beN xs 16 4) ((xs.take s).drop 20) (al - s) ++ (xs.take al).drop s = ((xs.take al).set 10 a).set 11 b := by
  obtain ⟨C, hC⟩ : ∃ C, 65535 - Sum.ones (Sum.tot false (hdB0 (xs.getD 1 0).toNat (beN xs 4 2) (beN xs 6 2) (xs.getD 8 0).toNat (xs.getD 9 0).toNat (beN xs 12 4) (beN xs 16 4) ((xs.take s).drop 20) (al - s))) = C := ⟨_, rfl⟩
  refine ⟨UInt8.ofNat (C / 256), UInt8.ofNat C, ?_⟩
  rw [hdB_set _ _ _ _ _ _ _ _ _ _ hC]
  clear hC
  obtain ⟨x0, x1, x2, x3, x4, x5, x6, x7, x8, x9, x10, x11, x12, x13, x14, x15, x16, x17, x18, x19, tl, rfl⟩ := cut20 xs h20
  obtain ⟨t, rfl⟩ : ∃ t, s = t + 20 := ⟨s - 20, by omega⟩
  obtain ⟨m, rfl⟩ : ∃ m, al = m + t + 20 := ⟨al - t - 20, by omega⟩
  simp only [List.getD_cons_zero] at hv hs
  have htl : t ≤ tl.length := by simp at h6; omega
  have hol : (((x0 :: x1 :: x2 :: x3 :: x4 :: x5 :: x6 :: x7 :: x8 :: x9 :: x10 :: x11 :: x12 :: x13 :: x14 :: x15 :: x16 :: x17 :: x18 :: x19 :: tl).take (t + 20)).drop 20).length = t := by
    rw [List.length_drop, List.length_take]; simp; omega
  have e0 : UInt8.ofNat (64 + (20 + t) / 4) = x0 := by
    apply UInt8.toNat_inj.1
    rw [UInt8.toNat_ofNat']
    omega
  have e2 : beB (m + t + 20) 2 = [x2, x3] := by
    rw [← hal]
    simp only [beN, List.getD_cons_zero, List.getD_cons_succ, Nat.zero_mul, Nat.zero_add, Nat.add_zero, Nat.reduceAdd]
    exact be_two _ _
  unfold hdB0
  rw [hol, e0, show 20 + t + (m + t + 20 - (t + 20)) = m + t + 20 by omega, e2]
  simp only [beN, List.getD_cons_zero, List.getD_cons_succ, Nat.zero_mul, Nat.zero_add, Nat.add_zero, Nat.reduceAdd]
  rw [be_two, be_two, be_four, be_four]
  have e1 : UInt8.ofNat x1.toNat = x1 := by simp
  have e8 : UInt8.ofNat x8.toNat = x8 := by simp
  have e9 : UInt8.ofNat x9.toNat = x9 := by simp
  rw [e1, e8, e9]
  simp only [List.cons_append, List.nil_append, List.set_cons_zero, List.set_cons_succ, List.take_succ_cons, List.drop_succ_cons, List.drop_zero]
  have e3 : tl.take t ++ (tl.take (m + t)).drop t = tl.take (m + t) := by
    conv => rhs; rw [← List.take_append_drop t (tl.take (m + t)), List.take_take, Nat.min_eq_left (by omega)]
  rw [e3]
theorem again_get (ys zs : List UInt8) (a b : UInt8) (h : ys = (zs.set 10 a).set 11 b) (i : Nat) (h10 : i ≠ 10) (h11 : i ≠ 11) : ys[i]? = zs[i]? := by
  subst h
  rw [List.getElem?_set_ne (by omega), List.getElem?_set_ne (by omega)]
theorem flI_raw (fl : Nat) (h : fl / 32768 = 0) : flI (decide (fl / 16384 % 2 = 1)) (decide (fl / 8192 % 2 = 1)) (fl % 8192) = (fl : Int) := by
  unfold flI
  by_cases h1 : fl / 16384 % 2 = 1 <;> by_cases h2 : fl / 8192 % 2 = 1 <;> simp [h1, h2] <;> omega
end Four
end Go.Proofs.Ytdmgbngdpjcliaa
