/- The statement TunWraps, walked: any packet that is put into another one is the same when that is opened, or why it can't be. Conditions: slices that read as lists, numbers of 64 bits. -/
import Derived.Test.YtdmgbngdpjcliaaTunAwake
namespace Go.Proofs.Ytdmgbngdpjcliaa
open Go.RowKit Go.ChangeShapes Go.WideShapes Go.ChangeAt Go.Deep
namespace Tun
set_option maxRecDepth 20000 in
set_option maxHeartbeats 8000000 in
theorem wraps_no (sv : Bool) (shi slo : Int) (dv : Bool) (dhi dlo : Int) (A : Option Addr) (n0 n c : Nat) (xs : List UInt8) (w : World) (hx : IsB w w.heap.size A n xs) (hn : min n0 500 = n) (hnc : n0 ≤ c) (hcm : c ≤ maxLen) (K : Nat) (hK : wrapK n xs sv shi slo dv dhi dlo = K) (hK0 : K ≠ 0) :
    Calls Try.prog 4 #[addrV sv shi slo, addrV dv dhi dlo, .slice A n0 c] w fun e w' => e = .returned (.bool true) ∧ Below w.heap.size w w' := by
  obtain ⟨w1, hw1⟩ : ∃ w1, (w.alloc (.cells #[.bool sv, .int .u64 shi, .int .u64 slo] 26)).alloc (.cells #[.bool dv, .int .u64 dhi, .int .u64 dlo] 26) = w1 := ⟨_, rfl⟩
  have hb1 : Below w.heap.size w w1 := hw1 ▸ ((Below.refl _ _).alloc (Nat.le_refl _) _).alloc (by simp) _
  have hgs : w1.heap[w.heap.size]? = some (.cells #[.bool sv, .int .u64 shi, .int .u64 slo] 26 (0, 0)) := hw1 ▸ blk_old _ (by simp) (blk_new _ _ _)
  have hgd : w1.heap[w.heap.size + 1]? = some (.cells #[.bool dv, .int .u64 dhi, .int .u64 dlo] 26 (0, 0)) := hw1 ▸ (by simpa using blk_new (w.alloc (.cells #[.bool sv, .int .u64 shi, .int .u64 slo] 26)) 26 #[.bool dv, .int .u64 dhi, .int .u64 dlo])
  have hz1 : w.heap.size + 1 < w1.heap.size := by rw [← hw1]; simp
  have hx1 := hx.on hb1
  have hcs := blk_cell hgs
  have hcd := blk_cell hgd
  have hn5 : n ≤ 500 := by omega
  have hn0 : n0 ≤ maxLen := by omega
  have hnc1 : n ≤ c := by omega
  have hxl := hx.1
  have u1 : ((K : Int) != 0) = true := by rw [bne_iff_ne]; omega
  replace hx := hide hx
  replace hx1 := hide hx1
  replace hb1 := hide hb1
  replace hgs := hide hgs
  replace hgd := hide hgd
  replace hn := hide hn
  replace hK := hide hK
  replace hxl := hide hxl
  unfold addrV
  go_enter Try.func4, Try.ntmps4
  go_wp2_with fail
  refine (pcut_as A n0 c n _ hn0 hnc hn.out).mono ?_
  rintro e w' ⟨rfl, rfl⟩
  clear hw1
  go_wp2_with fail
  refine (wrap_no sv shi slo dv dhi dlo A n c xs _ hx1.out (by omega) K hK.out hK0).mono ?_
  rintro e w2 ⟨rfl, hb2⟩
  have hgs2 := blk_below hb2 (by omega) hgs.out
  have hgd2 := blk_below hb2 hz1 hgd.out
  have hB2 := hb1.out.trans (hb2.mono hb1.out.size)
  have hz2 : w.heap.size + 1 < w2.heap.size := by have := hb2.size; omega
  have hx2 := hx1.out.on hb2
  clear hcs hcd hb2
  have hcs := blk_cell hgs2
  have hcd := blk_cell hgd2
  replace hgs2 := hide hgs2
  replace hgd2 := hide hgd2
  replace hB2 := hide hB2
  replace hx2 := hide hx2
  go_upto_if 28 with fail
  go_cut [9] (fun sv wx => ∃ w4, sv = .int .i64 (K : Int) ∧ Below w2.heap.size w2 w4 ∧ w4 = wx)
  case first =>
    have hK2 := hK.out
    unfold wrapK innerK at hK2
    by_cases h0 : n = 0
    · have t0 : ((n : Int) == 0) = true := by rw [beq_iff_eq]; omega
      rw [if_pos h0, if_pos (by omega)] at hK2
      subst hK2
      replace h0 := hide h0
      go_wp2_with fail
      go_meet
      exact ⟨_, rfl, Below.refl _ _, rfl⟩
    · obtain ⟨b, off, v0, rfl, hbl, hv0, hv0l, hc0⟩ := hx2.out.byte (i := 0) (by omega)
      rw [Nat.add_zero] at hc0
      rw [if_neg h0, hv0] at hK2
      have t0 : ((n : Int) == 0) = false := by rw [beq_eq_false_iff_ne]; omega
      have t1 : (0 : Int) < (n : Int) := by omega
      replace h0 := hide h0
      replace hv0 := hide hv0
      by_cases hv : v0 / 16 = 4 ∨ v0 / 16 = 6
      · rw [if_pos hv, if_neg (by omega)] at hK2
        have hz : (((v0 : Int) / 16) != 4) = false ∨ ((((v0 : Int) / 16) != 4) = true ∧ (((v0 : Int) / 16) != 6) = false) := by
          rcases hv with h | h
          · exact .inl (by rw [bne_eq_false_iff_eq]; omega)
          · exact .inr ⟨by rw [bne_iff_ne]; omega, by rw [bne_eq_false_iff_eq]; omega⟩
        have hbad : sv ≠ dv ∨ Four.okA sv shi slo = false ∨ Four.okA dv dhi dlo = false := by
          by_cases h : sv ≠ dv ∨ Four.okA sv shi slo = false ∨ Four.okA dv dhi dlo = false
          · exact h
          · rw [if_neg h] at hK2
            exact absurd hK2.symm hK0
        rw [if_pos hbad] at hK2
        subst hK2
        replace hv := hide hv
        by_cases hsd : sv ≠ dv
        · have t2 : (sv != dv) = true := by rw [bne_iff_ne]; exact hsd
          replace hbad := hide hbad
          replace hsd := hide hsd
          rcases hz with t3 | ⟨t3, t4⟩
          all_goals
            go_wp2_with fail
            go_meet
            exact ⟨_, rfl, Below.refl _ _, rfl⟩
        · obtain rfl : sv = dv := by simpa using hsd
          rcases ha : Four.okA sv shi slo with _ | _
          · replace hbad := hide hbad
            replace ha := hide ha
            clear hsd
            rcases hz with t3 | ⟨t3, t4⟩
            all_goals
              go_wp2_with fail
              refine (Four.addr_right sv shi slo false _ ha.out).mono ?_
              rintro e w3 ⟨rfl, hb3⟩
              replace hb3 := hide hb3
              go_wp2_with fail
              go_meet
              exact ⟨_, rfl, hb3.out, rfl⟩
          · have hd : Four.okA sv dhi dlo = false := by
              rcases hbad with h | h | h
              · exact absurd rfl h
              · rw [ha] at h; cases h
              · exact h
            replace hbad := hide hbad
            replace ha := hide ha
            replace hd := hide hd
            clear hsd
            rcases hz with t3 | ⟨t3, t4⟩
            all_goals
              go_wp2_with fail
              refine (Four.addr_right sv shi slo true _ ha.out).mono ?_
              rintro e w3 ⟨rfl, hb3⟩
              have hgd3 := blk_below hb3 hz2 hgd2.out
              clear hcs hcd
              have hcd := blk_cell hgd3
              replace hb3 := hide hb3
              replace hgd3 := hide hgd3
              go_wp2_with fail
              refine (Four.addr_right sv dhi dlo false _ hd.out).mono ?_
              rintro e w4 ⟨rfl, hb4⟩
              have hb24 := hb3.out.trans (hb4.mono hb3.out.size)
              clear hb4 hcd
              replace hb24 := hide hb24
              go_wp2_with fail
              go_meet
              exact ⟨_, rfl, hb24.out, rfl⟩
      · rw [if_neg hv, if_pos (by omega)] at hK2
        subst hK2
        have t2 : (((v0 : Int) / 16) != 4) = true := by rw [bne_iff_ne]; omega
        have t3 : (((v0 : Int) / 16) != 6) = true := by rw [bne_iff_ne]; omega
        replace hv := hide hv
        go_wp2_with fail
        go_meet
        exact ⟨_, rfl, Below.refl _ _, rfl⟩
  case rest =>
  obtain ⟨w4, rfl, hb4, rfl⟩ := hcut
  have hB4 := hB2.out.trans (hb4.mono hB2.out.size)
  clear hcs hcd hb4
  replace hB4 := hide hB4
  go_wp2_with fail
  refine (awake_any _).mono ?_
  rintro e w5 ⟨rfl, hb5⟩
  have hB5 := hB4.out.trans (hb5.mono hB4.out.size)
  clear hb5
  replace hB5 := hide hB5
  go_wp2_with fail
  go_ret
  exact ⟨rfl, hB5.out⟩
set_option maxRecDepth 20000 in
set_option maxHeartbeats 8000000 in
theorem wraps_six (shi slo dhi dlo : Nat) (A : Option Addr) (n0 n c : Nat) (xs : List UInt8) (w : World) (hx : IsB w w.heap.size A n xs) (hn : min n0 500 = n) (hnc : n0 ≤ c) (hcm : c ≤ maxLen) (hk : innerK n xs = 0) (b5 : shi < 18446744073709551616) (b6 : slo < 18446744073709551616) (b7 : dhi < 18446744073709551616) (b8 : dlo < 18446744073709551616) :
    Calls Try.prog 4 #[addrV true shi slo, addrV true dhi dlo, .slice A n0 c] w fun e w' => e = .returned (.bool true) ∧ Below w.heap.size w w' := by
  obtain ⟨w1, hw1⟩ : ∃ w1, (w.alloc (.cells #[.bool true, .int .u64 shi, .int .u64 slo] 26)).alloc (.cells #[.bool true, .int .u64 dhi, .int .u64 dlo] 26) = w1 := ⟨_, rfl⟩
  have hb1 : Below w.heap.size w w1 := hw1 ▸ ((Below.refl _ _).alloc (Nat.le_refl _) _).alloc (by simp) _
  have hgs : w1.heap[w.heap.size]? = some (.cells #[.bool true, .int .u64 shi, .int .u64 slo] 26 (0, 0)) := hw1 ▸ blk_old _ (by simp) (blk_new _ _ _)
  have hgd : w1.heap[w.heap.size + 1]? = some (.cells #[.bool true, .int .u64 dhi, .int .u64 dlo] 26 (0, 0)) := hw1 ▸ (by simpa using blk_new (w.alloc (.cells #[.bool true, .int .u64 shi, .int .u64 slo] 26)) 26 #[.bool true, .int .u64 dhi, .int .u64 dlo])
  have hz1 : w.heap.size + 1 < w1.heap.size := by rw [← hw1]; simp
  have hx1 := hx.on hb1
  have hcs := blk_cell hgs
  have hcd := blk_cell hgd
  have hn5 : n ≤ 500 := by omega
  have hn0 : n0 ≤ maxLen := by omega
  have hnc1 : n ≤ c := by omega
  have hxl := hx.1
  obtain ⟨p, hp⟩ : ∃ p, innerP xs = p := ⟨_, rfl⟩
  have h0 : 0 < n := by
    by_cases h : n = 0
    · unfold innerK at hk
      rw [if_pos h] at hk
      cases hk
    · omega
  obtain ⟨b, off, v0, rfl, hbl, hv0, hv0l, hc0⟩ := hx1.byte (i := 0) h0
  rw [Nat.add_zero] at hc0
  have hv : v0 / 16 = 4 ∨ v0 / 16 = 6 := by
    have h := hk
    unfold innerK at h
    rw [if_neg (by omega), hv0] at h
    by_cases h2 : v0 / 16 = 4 ∨ v0 / 16 = 6
    · exact h2
    · rw [if_neg h2] at h
      cases h
  have hpp : p = 4 ∨ p = 41 := by
    rw [← hp]
    unfold innerP
    rw [hv0]
    rcases hv with h | h
    · rw [if_pos h]; exact .inl rfl
    · rw [if_neg (by omega), if_pos h]; exact .inr rfl
  have hz : (((v0 : Int) / 16) != 4) = false ∨ ((((v0 : Int) / 16) != 4) = true ∧ (((v0 : Int) / 16) != 6) = false) := by
    rcases hv with h | h
    · exact .inl (by rw [bne_eq_false_iff_eq]; omega)
    · exact .inr ⟨by rw [bne_iff_ne]; omega, by rw [bne_eq_false_iff_eq]; omega⟩
  have t0 : ((n : Int) == 0) = false := by rw [beq_eq_false_iff_ne]; omega
  have t1 : (0 : Int) < (n : Int) := by omega
  obtain ⟨ys, hys⟩ : ∃ ys, Six.allB6 0 0 64 shi slo dhi dlo p [] xs = ys := ⟨_, rfl⟩
  obtain ⟨L, hL⟩ : ∃ L, 40 + n = L := ⟨_, rfl⟩
  have hyl : ys.length = L := by rw [← hys, Six.allB6_length, hxl, ← hL]; rfl
  have hop := six_opens p shi slo dhi dlo n xs ys hxl (by omega) hp hk b5 b6 b7 b8 hys
  obtain ⟨hS, _, hvy⟩ := six_wrapped p shi slo dhi dlo n xs ys hxl (by omega) hpp b5 b6 b7 b8 hys
  have htt := fun (A9 : Option Addr) (c9 : Nat) (W : World) (h : IsB W W.heap.size A9 (40 + n) ys) (hc : 40 + n ≤ c9) (hm : c9 ≤ maxLen) => ttl_six (40 + n) ys _ _ _ _ _ _ _ _ _ _ _ _ _ _ hS (by omega) hvy (by simp) (fun e he => by cases he) (by omega) A9 c9 W h hc hm
  rw [show 40 + Six.sumP [] + n = L from hL] at htt
  rw [hL] at hop
  try rw [hL] at htt
  have u1 : ((L : Int) == (n : Int) + 40) = true := by rw [beq_iff_eq]; omega
  replace hx := hide hx
  replace hx1 := hide hx1
  replace hb1 := hide hb1
  replace hgs := hide hgs
  replace hgd := hide hgd
  replace hn := hide hn
  replace hk := hide hk
  replace hxl := hide hxl
  replace hp := hide hp
  replace hv := hide hv
  replace hpp := hide hpp
  replace hv0 := hide hv0
  replace hys := hide hys
  replace hL := hide hL
  replace hyl := hide hyl
  replace hop := hide hop
  replace htt := hide htt
  replace hc0 := hide hc0
  unfold addrV
  go_enter Try.func4, Try.ntmps4
  go_wp2_with fail
  refine (pcut_as _ n0 c n _ hn0 hnc hn.out).mono ?_
  rintro e w' ⟨rfl, rfl⟩
  clear hw1
  go_wp2_with fail
  refine (wrap_six shi slo dhi dlo _ n c xs _ hx1.out (by omega) hnc1 hcm p hp.out hk.out b5 b6 b7 b8 hpp.out).mono ?_
  rintro e w2 ⟨v2, rfl, hown, hb2⟩
  rw [hys.out] at hown
  obtain ⟨A2, c2, rfl, hc2, hm2, hi2⟩ := hown.form
  rw [hyl.out] at hc2 hi2 ⊢
  have hc02 := (hb2.cell (p := ⟨b, off, none⟩) hbl).trans hc0.out
  clear hown
  have hgs2 := blk_below hb2 (by omega) hgs.out
  have hgd2 := blk_below hb2 hz1 hgd.out
  have hB2 := hb1.out.trans (hb2.mono hb1.out.size)
  have hz2 : w.heap.size + 1 < w2.heap.size := by have := hb2.size; omega
  have hx2 := hx1.out.on hb2
  clear hcs hcd hb2
  have hcs := blk_cell hgs2
  have hcd := blk_cell hgd2
  replace hgs2 := hide hgs2
  replace hgd2 := hide hgd2
  replace hB2 := hide hB2
  replace hx2 := hide hx2
  replace hi2 := hide hi2
  go_upto_if 28 with fail
  go_cut [9] (fun sv wx => ∃ w4, sv = .int .i64 0 ∧ Below w2.heap.size w2 w4 ∧ w4 = wx)
  case first =>
    rcases hz with t3 | ⟨t3, t4⟩
    all_goals
      go_wp2_with fail
      refine (Four.addr_right true shi slo true _ rfl).mono ?_
      rintro e w3 ⟨rfl, hb3⟩
      have hgd3 := blk_below hb3 hz2 hgd2.out
      clear hcs hcd
      have hcd := blk_cell hgd3
      replace hb3 := hide hb3
      replace hgd3 := hide hgd3
      go_wp2_with fail
      refine (Four.addr_right true dhi dlo true _ rfl).mono ?_
      rintro e w4 ⟨rfl, hb4⟩
      have hb24 := hb3.out.trans (hb4.mono hb3.out.size)
      clear hb4 hcd
      replace hb24 := hide hb24
      go_wp2_with fail
      go_meet
      exact ⟨_, rfl, hb24.out, rfl⟩
  case rest =>
  obtain ⟨w4, rfl, hb4, rfl⟩ := hcut
  have hi4 := hi2.out.on hb4
  have hgs4 := blk_below hb4 (by omega) hgs2.out
  have hgd4 := blk_below hb4 hz2 hgd2.out
  have hB4 := hB2.out.trans (hb4.mono hB2.out.size)
  have hz4 : w.heap.size + 1 < w4.heap.size := by have := hb4.size; omega
  have hx4 := hx2.out.on hb4
  clear hcs hcd hb4
  have hcs := blk_cell hgs4
  have hcd := blk_cell hgd4
  replace hgs4 := hide hgs4
  replace hgd4 := hide hgd4
  replace hB4 := hide hB4
  replace hx4 := hide hx4
  clear hz hc02
  replace hi4 := hide hi4
  go_wp2_with fail
  refine (hop.out A2 c2 _ hi4.out hc2 hm2).mono ?_
  rintro e w5 ⟨_, h2, hb5⟩
  obtain ⟨A5, c5, rfl, hj5, hc5, hm5⟩ := h2 rfl
  clear h2
  obtain ⟨wb, hwb⟩ : ∃ wb, (w5.alloc (.cells #[.bool true, .int .u64 shi, .int .u64 slo] 26)).alloc (.cells #[.bool true, .int .u64 dhi, .int .u64 dlo] 26) = wb := ⟨_, rfl⟩
  have hbb : Below w5.heap.size w5 wb := hwb ▸ ((Below.refl _ _).alloc (Nat.le_refl _) _).alloc (by simp) _
  have hg6 : wb.heap[w5.heap.size]? = some (.cells #[.bool true, .int .u64 shi, .int .u64 slo] 26 (0, 0)) := hwb ▸ blk_old _ (by simp) (blk_new _ _ _)
  have hg7 : wb.heap[w5.heap.size + 1]? = some (.cells #[.bool true, .int .u64 dhi, .int .u64 dlo] 26 (0, 0)) := hwb ▸ (by simpa using blk_new (w5.alloc (.cells #[.bool true, .int .u64 shi, .int .u64 slo] 26)) 26 #[.bool true, .int .u64 dhi, .int .u64 dlo])
  have hzb : w5.heap.size + 1 < wb.heap.size := by rw [← hwb]; simp
  have hbx := hb5.trans (hbb.mono hb5.size)
  have hgsb := blk_below hbx (by omega) hgs4.out
  have hgdb := blk_below hbx hz4 hgd4.out
  have hBb := hB4.out.trans (hbx.mono hB4.out.size)
  have hxb := hx4.out.on hbx
  have hib := hi4.out.on hbx
  have hjb := hj5.on hbb
  have hzbx := hbx.size
  clear hb5 hbb hj5 hcs hcd
  replace hg6 := hide hg6
  replace hg7 := hide hg7
  replace hgsb := hide hgsb
  replace hgdb := hide hgdb
  replace hBb := hide hBb
  replace hxb := hide hxb
  replace hib := hide hib
  replace hjb := hide hjb
  replace hbx := hide hbx
  go_wp2_with fail
  clear hwb
  refine (htt.out A2 c2 _ hib.out hc2 hm2).mono ?_
  rintro e w6 ⟨rfl, hb6⟩
  have hg66 := blk_below hb6 (by omega) hg6.out
  have hg76 := blk_below hb6 hzb hg7.out
  have hgs6 := blk_below hb6 (by omega) hgsb.out
  have hgd6 := blk_below hb6 (by omega) hgdb.out
  have hB6 := hBb.out.trans (hb6.mono hBb.out.size)
  have q1 := blk_cell hg66
  have q2 := blk_cell hg76
  have q3 := blk_cell hgs6
  have q4 := blk_cell hgd6
  have s1 := (hxb.out.on hb6).str c
  have s2 := (hjb.out.on hb6).str c5
  clear hb6
  replace hg66 := hide hg66
  replace hg76 := hide hg76
  replace hgs6 := hide hgs6
  replace hgd6 := hide hgd6
  replace hB6 := hide hB6
  go_wp2_with fail
  refine (over40 _).mono ?_
  rintro e w7 ⟨rfl, hb7⟩
  have hB7 := hB6.out.trans (hb7.mono hB6.out.size)
  clear hb7 q1 q2 q3 q4 s1 s2
  replace hB7 := hide hB7
  go_wp2_with fail
  refine (awake_any _).mono ?_
  rintro e w8 ⟨rfl, hb8⟩
  have hB8 := hB7.out.trans (hb8.mono hB7.out.size)
  clear hb8
  replace hB8 := hide hB8
  go_wp2_with fail
  go_ret
  exact ⟨rfl, hB8.out⟩
set_option maxRecDepth 20000 in
set_option maxHeartbeats 8000000 in
theorem wraps_four (slo dlo : Nat) (A : Option Addr) (n0 n c : Nat) (xs : List UInt8) (w : World) (hx : IsB w w.heap.size A n xs) (hn : min n0 500 = n) (hnc : n0 ≤ c) (hcm : c ≤ maxLen) (hk : innerK n xs = 0) (b6 : slo < 4294967296) (b8 : dlo < 4294967296) :
    Calls Try.prog 4 #[addrV false 0 slo, addrV false 0 dlo, .slice A n0 c] w fun e w' => e = .returned (.bool true) ∧ Below w.heap.size w w' := by
  obtain ⟨w1, hw1⟩ : ∃ w1, (w.alloc (.cells #[.bool false, .int .u64 0, .int .u64 slo] 26)).alloc (.cells #[.bool false, .int .u64 0, .int .u64 dlo] 26) = w1 := ⟨_, rfl⟩
  have hb1 : Below w.heap.size w w1 := hw1 ▸ ((Below.refl _ _).alloc (Nat.le_refl _) _).alloc (by simp) _
  have hgs : w1.heap[w.heap.size]? = some (.cells #[.bool false, .int .u64 0, .int .u64 slo] 26 (0, 0)) := hw1 ▸ blk_old _ (by simp) (blk_new _ _ _)
  have hgd : w1.heap[w.heap.size + 1]? = some (.cells #[.bool false, .int .u64 0, .int .u64 dlo] 26 (0, 0)) := hw1 ▸ (by simpa using blk_new (w.alloc (.cells #[.bool false, .int .u64 0, .int .u64 slo] 26)) 26 #[.bool false, .int .u64 0, .int .u64 dlo])
  have hz1 : w.heap.size + 1 < w1.heap.size := by rw [← hw1]; simp
  have hx1 := hx.on hb1
  have hcs := blk_cell hgs
  have hcd := blk_cell hgd
  have hn5 : n ≤ 500 := by omega
  have hn0 : n0 ≤ maxLen := by omega
  have hnc1 : n ≤ c := by omega
  have hxl := hx.1
  obtain ⟨p, hp⟩ : ∃ p, innerP xs = p := ⟨_, rfl⟩
  have h0 : 0 < n := by
    by_cases h : n = 0
    · unfold innerK at hk
      rw [if_pos h] at hk
      cases hk
    · omega
  obtain ⟨b, off, v0, rfl, hbl, hv0, hv0l, hc0⟩ := hx1.byte (i := 0) h0
  rw [Nat.add_zero] at hc0
  have hv : v0 / 16 = 4 ∨ v0 / 16 = 6 := by
    have h := hk
    unfold innerK at h
    rw [if_neg (by omega), hv0] at h
    by_cases h2 : v0 / 16 = 4 ∨ v0 / 16 = 6
    · exact h2
    · rw [if_neg h2] at h
      cases h
  have hpp : p = 4 ∨ p = 41 := by
    rw [← hp]
    unfold innerP
    rw [hv0]
    rcases hv with h | h
    · rw [if_pos h]; exact .inl rfl
    · rw [if_neg (by omega), if_pos h]; exact .inr rfl
  have hz : (((v0 : Int) / 16) != 4) = false ∨ ((((v0 : Int) / 16) != 4) = true ∧ (((v0 : Int) / 16) != 6) = false) := by
    rcases hv with h | h
    · exact .inl (by rw [bne_eq_false_iff_eq]; omega)
    · exact .inr ⟨by rw [bne_iff_ne]; omega, by rw [bne_eq_false_iff_eq]; omega⟩
  have t0 : ((n : Int) == 0) = false := by rw [beq_eq_false_iff_ne]; omega
  have t1 : (0 : Int) < (n : Int) := by omega
  have ho1 : Four.okA false 0 slo = true := by simp [Four.okA]; omega
  have ho2 : Four.okA false 0 dlo = true := by simp [Four.okA]; omega
  replace ho1 := hide ho1
  replace ho2 := hide ho2
  obtain ⟨ys, hys⟩ : ∃ ys, Four.hdB 0 0 16384 64 p slo dlo [] n ++ xs = ys := ⟨_, rfl⟩
  obtain ⟨L, hL⟩ : ∃ L, 20 + n = L := ⟨_, rfl⟩
  have hyl : ys.length = L := by rw [← hys, List.length_append, Four.hdB_length, hxl, ← hL]; rfl
  have hop := four_opens p slo dlo n xs ys hxl (by omega) hp hk b6 b8 hys
  obtain ⟨hS, _, hvy⟩ := four_wrapped p slo dlo n xs ys hxl (by omega) (by omega) b6 b8 hys
  have htt := fun (A9 : Option Addr) (c9 : Nat) (W : World) (h : IsB W W.heap.size A9 (20 + n) ys) (hc : 20 + n ≤ c9) (hm : c9 ≤ maxLen) => ttl_four (20 + n) ys _ _ _ _ _ _ _ _ _ _ _ _ _ hS (by omega) hvy (by omega) (by omega) A9 c9 W h hc hm
  rw [show 20 + 0 + n = L from hL] at htt
  rw [hL] at hop
  try rw [hL] at htt
  have u1 : ((L : Int) == (n : Int) + 20) = true := by rw [beq_iff_eq]; omega
  replace hx := hide hx
  replace hx1 := hide hx1
  replace hb1 := hide hb1
  replace hgs := hide hgs
  replace hgd := hide hgd
  replace hn := hide hn
  replace hk := hide hk
  replace hxl := hide hxl
  replace hp := hide hp
  replace hv := hide hv
  replace hpp := hide hpp
  replace hv0 := hide hv0
  replace hys := hide hys
  replace hL := hide hL
  replace hyl := hide hyl
  replace hop := hide hop
  replace htt := hide htt
  replace hc0 := hide hc0
  unfold addrV
  go_enter Try.func4, Try.ntmps4
  go_wp2_with fail
  refine (pcut_as _ n0 c n _ hn0 hnc hn.out).mono ?_
  rintro e w' ⟨rfl, rfl⟩
  clear hw1
  go_wp2_with fail
  refine (wrap_four slo dlo _ n c xs _ hx1.out (by omega) p hp.out hk.out b6 b8 hpp.out).mono ?_
  rintro e w2 ⟨v2, rfl, hown, hb2⟩
  rw [hys.out] at hown
  obtain ⟨A2, c2, rfl, hc2, hm2, hi2⟩ := hown.form
  rw [hyl.out] at hc2 hi2 ⊢
  have hc02 := (hb2.cell (p := ⟨b, off, none⟩) hbl).trans hc0.out
  clear hown
  have hgs2 := blk_below hb2 (by omega) hgs.out
  have hgd2 := blk_below hb2 hz1 hgd.out
  have hB2 := hb1.out.trans (hb2.mono hb1.out.size)
  have hz2 : w.heap.size + 1 < w2.heap.size := by have := hb2.size; omega
  have hx2 := hx1.out.on hb2
  clear hcs hcd hb2
  have hcs := blk_cell hgs2
  have hcd := blk_cell hgd2
  replace hgs2 := hide hgs2
  replace hgd2 := hide hgd2
  replace hB2 := hide hB2
  replace hx2 := hide hx2
  replace hi2 := hide hi2
  go_upto_if 28 with fail
  go_cut [9] (fun sv wx => ∃ w4, sv = .int .i64 0 ∧ Below w2.heap.size w2 w4 ∧ w4 = wx)
  case first =>
    rcases hz with t3 | ⟨t3, t4⟩
    all_goals
      go_wp2_with fail
      refine (Four.addr_right false 0 slo true _ ho1.out).mono ?_
      rintro e w3 ⟨rfl, hb3⟩
      have hgd3 := blk_below hb3 hz2 hgd2.out
      clear hcs hcd
      have hcd := blk_cell hgd3
      replace hb3 := hide hb3
      replace hgd3 := hide hgd3
      go_wp2_with fail
      refine (Four.addr_right false 0 dlo true _ ho2.out).mono ?_
      rintro e w4 ⟨rfl, hb4⟩
      have hb24 := hb3.out.trans (hb4.mono hb3.out.size)
      clear hb4 hcd
      replace hb24 := hide hb24
      go_wp2_with fail
      go_meet
      exact ⟨_, rfl, hb24.out, rfl⟩
  case rest =>
  obtain ⟨w4, rfl, hb4, rfl⟩ := hcut
  have hi4 := hi2.out.on hb4
  have hgs4 := blk_below hb4 (by omega) hgs2.out
  have hgd4 := blk_below hb4 hz2 hgd2.out
  have hB4 := hB2.out.trans (hb4.mono hB2.out.size)
  have hz4 : w.heap.size + 1 < w4.heap.size := by have := hb4.size; omega
  have hx4 := hx2.out.on hb4
  clear hcs hcd hb4
  have hcs := blk_cell hgs4
  have hcd := blk_cell hgd4
  replace hgs4 := hide hgs4
  replace hgd4 := hide hgd4
  replace hB4 := hide hB4
  replace hx4 := hide hx4
  clear hz hc02
  replace hi4 := hide hi4
  go_wp2_with fail
  refine (hop.out A2 c2 _ hi4.out hc2 hm2).mono ?_
  rintro e w5 ⟨_, h2, hb5⟩
  obtain ⟨A5, c5, rfl, hj5, hc5, hm5⟩ := h2 rfl
  clear h2
  obtain ⟨wb, hwb⟩ : ∃ wb, (w5.alloc (.cells #[.bool false, .int .u64 0, .int .u64 slo] 26)).alloc (.cells #[.bool false, .int .u64 0, .int .u64 dlo] 26) = wb := ⟨_, rfl⟩
  have hbb : Below w5.heap.size w5 wb := hwb ▸ ((Below.refl _ _).alloc (Nat.le_refl _) _).alloc (by simp) _
  have hg6 : wb.heap[w5.heap.size]? = some (.cells #[.bool false, .int .u64 0, .int .u64 slo] 26 (0, 0)) := hwb ▸ blk_old _ (by simp) (blk_new _ _ _)
  have hg7 : wb.heap[w5.heap.size + 1]? = some (.cells #[.bool false, .int .u64 0, .int .u64 dlo] 26 (0, 0)) := hwb ▸ (by simpa using blk_new (w5.alloc (.cells #[.bool false, .int .u64 0, .int .u64 slo] 26)) 26 #[.bool false, .int .u64 0, .int .u64 dlo])
  have hzb : w5.heap.size + 1 < wb.heap.size := by rw [← hwb]; simp
  have hbx := hb5.trans (hbb.mono hb5.size)
  have hgsb := blk_below hbx (by omega) hgs4.out
  have hgdb := blk_below hbx hz4 hgd4.out
  have hBb := hB4.out.trans (hbx.mono hB4.out.size)
  have hxb := hx4.out.on hbx
  have hib := hi4.out.on hbx
  have hjb := hj5.on hbb
  have hzbx := hbx.size
  clear hb5 hbb hj5 hcs hcd
  replace hg6 := hide hg6
  replace hg7 := hide hg7
  replace hgsb := hide hgsb
  replace hgdb := hide hgdb
  replace hBb := hide hBb
  replace hxb := hide hxb
  replace hib := hide hib
  replace hjb := hide hjb
  replace hbx := hide hbx
  go_wp2_with fail
  clear hwb
  refine (htt.out A2 c2 _ hib.out hc2 hm2).mono ?_
  rintro e w6 ⟨rfl, hb6⟩
  have hg66 := blk_below hb6 (by omega) hg6.out
  have hg76 := blk_below hb6 hzb hg7.out
  have hgs6 := blk_below hb6 (by omega) hgsb.out
  have hgd6 := blk_below hb6 (by omega) hgdb.out
  have hB6 := hBb.out.trans (hb6.mono hBb.out.size)
  have q1 := blk_cell hg66
  have q2 := blk_cell hg76
  have q3 := blk_cell hgs6
  have q4 := blk_cell hgd6
  have s1 := (hxb.out.on hb6).str c
  have s2 := (hjb.out.on hb6).str c5
  clear hb6
  replace hg66 := hide hg66
  replace hg76 := hide hg76
  replace hgs6 := hide hgs6
  replace hgd6 := hide hgd6
  replace hB6 := hide hB6
  go_wp2_with fail
  refine (over20 _).mono ?_
  rintro e w7 ⟨rfl, hb7⟩
  have hB7 := hB6.out.trans (hb7.mono hB6.out.size)
  clear hb7 q1 q2 q3 q4 s1 s2
  replace hB7 := hide hB7
  go_wp2_with fail
  refine (awake_any _).mono ?_
  rintro e w8 ⟨rfl, hb8⟩
  have hB8 := hB7.out.trans (hb8.mono hB7.out.size)
  clear hb8
  replace hB8 := hide hB8
  go_wp2_with fail
  go_ret
  exact ⟨rfl, hB8.out⟩
theorem wraps_walk (sv : Bool) (shi slo : Int) (dv : Bool) (dhi dlo : Int) (A : Option Addr) (n0 c : Nat) (xs0 : List UInt8) (w : World) (hw1 : (Lit.int .u64 shi).wf = true) (hw2 : (Lit.int .u64 slo).wf = true) (hw3 : (Lit.int .u64 dhi).wf = true) (hw4 : (Lit.int .u64 dlo).wf = true)
    (hx0 : IsB w w.heap.size A n0 xs0) (hnc : n0 ≤ c) (hcm : c ≤ maxLen) :
    Calls Try.prog 4 #[.agg #[.bool sv, .int .u64 shi, .int .u64 slo], .agg #[.bool dv, .int .u64 dhi, .int .u64 dlo], .slice A n0 c] w fun e w' => e = .returned (.bool true) ∧ Below w.heap.size w w' := by
  obtain ⟨n, hn⟩ : ∃ n, min n0 500 = n := ⟨_, rfl⟩
  have hx : IsB w w.heap.size A n (xs0.take n) := hx0.take (m := n) (by omega)
  obtain ⟨K, hK⟩ : ∃ K, wrapK n (xs0.take n) sv shi slo dv dhi dlo = K := ⟨_, rfl⟩
  by_cases hK0 : K = 0
  · subst hK0
    have hK2 := hK
    unfold wrapK at hK2
    have hk : innerK n (xs0.take n) = 0 := by
      by_cases h : innerK n (xs0.take n) ≠ 0
      · rw [if_pos h] at hK2; exact hK2
      · omega
    rw [if_neg (fun h => h hk)] at hK2
    have hgood : ¬ (sv ≠ dv ∨ Four.okA sv shi slo = false ∨ Four.okA dv dhi dlo = false) := by
      intro h
      rw [if_pos h] at hK2
      cases hK2
    obtain rfl : sv = dv := Classical.byContradiction fun h => hgood (.inl h)
    have b1 := u64_wf hw1
    have b2 := u64_wf hw2
    have b3 := u64_wf hw3
    have b4 := u64_wf hw4
    rcases sv with _ | _
    · have o1 : Four.okA false shi slo = true := by
        rcases h : Four.okA false shi slo with _ | _
        · exact absurd (.inr (.inl h)) hgood
        · rfl
      have o2 : Four.okA false dhi dlo = true := by
        rcases h : Four.okA false dhi dlo with _ | _
        · exact absurd (.inr (.inr h)) hgood
        · rfl
      obtain ⟨rfl, e1⟩ : shi = 0 ∧ slo < 4294967296 := by simpa [Four.okA] using o1
      obtain ⟨rfl, e2⟩ : dhi = 0 ∧ dlo < 4294967296 := by simpa [Four.okA] using o2
      obtain ⟨slo, rfl⟩ : ∃ z : Nat, slo = (z : Int) := ⟨slo.toNat, by omega⟩
      obtain ⟨dlo, rfl⟩ : ∃ z : Nat, dlo = (z : Int) := ⟨dlo.toNat, by omega⟩
      exact wraps_four slo dlo A n0 n c _ w hx hn hnc hcm hk (by omega) (by omega)
    · obtain ⟨shi, rfl⟩ : ∃ z : Nat, shi = (z : Int) := ⟨shi.toNat, by omega⟩
      obtain ⟨slo, rfl⟩ : ∃ z : Nat, slo = (z : Int) := ⟨slo.toNat, by omega⟩
      obtain ⟨dhi, rfl⟩ : ∃ z : Nat, dhi = (z : Int) := ⟨dhi.toNat, by omega⟩
      obtain ⟨dlo, rfl⟩ : ∃ z : Nat, dlo = (z : Int) := ⟨dlo.toNat, by omega⟩
      exact wraps_six shi slo dhi dlo A n0 n c _ w hx hn hnc hcm hk (by omega) (by omega) (by omega) (by omega)
  · exact wraps_no sv shi slo dv dhi dlo A n0 n c _ w hx hn hnc hcm K hK hK0
end Tun
end Go.Proofs.Ytdmgbngdpjcliaa
