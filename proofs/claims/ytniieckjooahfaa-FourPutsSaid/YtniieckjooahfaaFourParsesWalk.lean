/- The statement FourParses, walked: any bytes are parsed as the packet that they are, or as none. Conditions: slices of bytes that read as lists. -/
import Derived.Test.YtniieckjooahfaaFourAwake
import Derived.Test.YtniieckjooahfaaFourPlain
import Derived.Test.YtniieckjooahfaaFourRightAny
namespace Go.Proofs.Ytniieckjooahfaa
open Go.RowKit Go.ChangeShapes Go.WideShapes Go.ChangeAt Go.Deep
namespace Four
theorem below_drewN (B : Nat) (w : World) (n : Nat) : Below B w (w.drewN n) := by
  induction n with
  | zero => exact Below.refl _ _
  | succ n ih => exact ih.drew
/-- What is parsed of a packet, its numbers as letters. -/
theorem parse_okL (A : Option Addr) (n c : Nat) (xs : List UInt8) (w : World) (hx : IsB w w.heap.size A n xs) (hnc : n ≤ c) (hnm : n ≤ 1099511627776) (h : 20 ≤ n) (hv : (xs.getD 0 0).toNat / 16 = 4) (s : Nat) (hs : (xs.getD 0 0).toNat % 16 * 4 = s) (h5 : 20 ≤ s) (h6 : s ≤ n) (h7 : beN xs 6 2 / 32768 = 0) (al : Nat) (hal : beN xs 2 2 = al) (h8 : s ≤ al) (h9 : al ≤ n) (h10 : Sum.ones (Sum.tot false (xs.take s)) = 65535)
    (tos id fl ttl proto slo dlo : Nat) (e1 : (xs.getD 1 0).toNat = tos) (e2 : beN xs 4 2 = id) (e3 : beN xs 6 2 = fl) (e4 : (xs.getD 8 0).toNat = ttl) (e5 : (xs.getD 9 0).toNat = proto) (e6 : beN xs 12 4 = slo) (e7 : beN xs 16 4 = dlo) (df mf : Bool) (frag : Nat) (e8 : decide (fl / 16384 % 2 = 1) = df) (e9 : decide (fl / 8192 % 2 = 1) = mf) (e10 : fl % 8192 = frag) (n1 m1 : Nat) (e11 : s - 20 = n1) (e12 : al - s = m1) :
    Calls Try.prog 45 #[.slice A n c] w fun e w' => ∃ A1 c1 A2 c2, e = .returned (.tuple #[hdV tos id df mf frag ttl proto false 0 slo false 0 dlo A1 n1 c1, .slice A2 m1 c2, .int .i64 0]) ∧ IsB w' w'.heap.size A1 n1 ((xs.take s).drop 20) ∧ n1 ≤ c1 ∧ c1 ≤ maxLen ∧ IsB w' w'.heap.size A2 m1 ((xs.take al).drop s) ∧ Below w.heap.size w w' := by
  subst e1 e2 e3 e4 e5 e6 e7 e8 e9 e10 e11 e12 hal
  refine (parse_ok A n c xs w hx hnc hnm h hv s hs h5 h6 h7 h8 h9 h10).mono ?_
  rintro e w' ⟨A1, c1, A2, c2, rfl, i1, i2, i3, i4, i5⟩
  exact ⟨A1, c1, A2, c2, rfl, i1, i2, i3, i4.reads.2.2.2, i5⟩
set_option maxRecDepth 20000 in
set_option maxHeartbeats 4000000 in
theorem parses_walk (A : Option Addr) (n0 c : Nat) (xs0 : List UInt8) (w : World) (hx0 : IsB w w.heap.size A n0 xs0) (hnc : n0 ≤ c) (hcm : c ≤ maxLen) :
    Calls Try.prog 11 #[.slice A n0 c] w fun e w' => e = .returned (.bool true) ∧ Below w.heap.size w w' := by
  obtain ⟨n, hn⟩ : ∃ n, min n0 300 = n := ⟨_, rfl⟩
  obtain ⟨xs, hxs⟩ : ∃ xs, xs0.take n = xs := ⟨_, rfl⟩
  have hx : IsB w w.heap.size A n xs := hxs ▸ hx0.take (m := n) (by omega)
  have hn3 : n ≤ 300 := by omega
  have hnc1 : n ≤ c := by omega
  have hn0 : n0 ≤ maxLen := by omega
  have hxl := hx.1
  have hcases := parse_cases n xs hxl hn3
  replace hxl := hide hxl
  replace hx := hide hx
  replace hn := hide hn
  clear hx0 hxs
  rcases hcases with ⟨k, hk1, hk2, hpw⟩ | ⟨h1, h2, h3, h4, h5, h6, h7, h8⟩
  · have hkb : ((k : Int) != 0) = true := by simp; omega
    replace hpw := hide hpw
    go_enter Try.func11, Try.ntmps11
    go_wp2_with fail
    refine (cut_as A n0 c n _ hn0 hnc hn.out).mono ?_
    rintro e w' ⟨rfl, rfl⟩
    go_wp2_with fail
    refine ((hpw.out A c _ hx.out hnc1).1).mono ?_
    rintro e w1 ⟨rfl, hb1⟩
    have hx1 := (hx.out.on hb1).alloc hd0C
    unfold hd0C hdC at hx1
    replace hx1 := hide hx1
    replace hb1 := hide hb1
    go_wp2_with fail
    refine ((hpw.out A c _ hx1.out hnc1).2).mono ?_
    rintro e w2 ⟨rfl, hb2⟩
    have hb2' : Below w1.heap.size w1 w2 := ((Below.refl _ _).alloc (Nat.le_refl _) _).trans (hb2.mono (by simp))
    have hg2 := blk_below hb2 (by simp) (blk_new _ _ _)
    have hcg := blk_cell hg2
    replace hg2 := hide hg2
    clear hb2
    replace hb2' := hide hb2'
    go_wp2_with fail
    refine (same_eq 0 0 false false 0 0 0 false 0 0 false 0 0 none none 0 0 0 0 [] _ (IsB.nil _ _ _) (IsB.nil _ _ _)).mono ?_
    rintro e w3 ⟨rfl, hb3⟩
    clear hcg
    replace hb3 := hide hb3
    go_wp2_with fail
    refine (awake_any _).mono ?_
    rintro e w4 ⟨rfl, hb4⟩
    replace hb4 := hide hb4
    go_wp2_with fail
    go_ret
    exact ⟨rfl, hb1.out.trans ((hb2'.out.trans ((hb3.out.trans (hb4.out.mono hb3.out.size)).mono hb2'.out.size)).mono hb1.out.size)⟩
  · obtain ⟨s, hs⟩ : ∃ s, (xs.getD 0 0).toNat % 16 * 4 = s := ⟨_, rfl⟩
    obtain ⟨al, hal⟩ : ∃ k, beN xs 2 2 = k := ⟨_, rfl⟩
    obtain ⟨tos, e1⟩ : ∃ k, (xs.getD 1 0).toNat = k := ⟨_, rfl⟩
    obtain ⟨id, e2⟩ : ∃ k, beN xs 4 2 = k := ⟨_, rfl⟩
    obtain ⟨fl, e3⟩ : ∃ k, beN xs 6 2 = k := ⟨_, rfl⟩
    obtain ⟨ttl, e4⟩ : ∃ k, (xs.getD 8 0).toNat = k := ⟨_, rfl⟩
    obtain ⟨proto, e5⟩ : ∃ k, (xs.getD 9 0).toNat = k := ⟨_, rfl⟩
    obtain ⟨slo, e6⟩ : ∃ k, beN xs 12 4 = k := ⟨_, rfl⟩
    obtain ⟨dlo, e7⟩ : ∃ k, beN xs 16 4 = k := ⟨_, rfl⟩
    obtain ⟨df, e8⟩ : ∃ k, decide (fl / 16384 % 2 = 1) = k := ⟨_, rfl⟩
    obtain ⟨mf, e9⟩ : ∃ k, decide (fl / 8192 % 2 = 1) = k := ⟨_, rfl⟩
    obtain ⟨frag, e10⟩ : ∃ k, fl % 8192 = k := ⟨_, rfl⟩
    rw [hs] at h3 h4 h6 h8
    rw [hal] at h6 h7
    obtain ⟨n1, e11⟩ : ∃ k, s - 20 = k := ⟨_, rfl⟩
    obtain ⟨m1, e12⟩ : ∃ k, al - s = k := ⟨_, rfl⟩
    have hfli := flI_raw fl (by rw [← e3]; exact h5)
    rw [e8, e9, e10] at hfli
    have hag := again xs s al (by rw [hxl.out]; omega) h2 hs h3 (by rw [hxl.out]; omega) hal h6 (by rw [hxl.out]; omega)
    rw [e1, e2, e3, e4, e5, e6, e7, e12] at hag
    have b1 : tos ≤ 255 := by rw [← e1]; have := (xs.getD 1 0).toNat_lt; omega
    have b2 : id ≤ 65535 := by rw [← e2]; have := beN_lt xs 4 2; omega
    have b3 : frag ≤ 8191 := by omega
    have b4 : ttl ≤ 255 := by rw [← e4]; have := (xs.getD 8 0).toNat_lt; omega
    have b5 : proto ≤ 255 := by rw [← e5]; have := (xs.getD 9 0).toNat_lt; omega
    have b6 : slo < 4294967296 := by rw [← e6]; exact beN_lt xs 12 4
    have b7 : dlo < 4294967296 := by rw [← e7]; exact beN_lt xs 16 4
    have b8 : n1 ≤ 40 := by have := (xs.getD 0 0).toNat_lt; omega
    have b9 : n1 % 4 = 0 := by omega
    have b10 : m1 ≤ 300 := by omega
    have b11 : (20 + n1) + m1 = al := by omega
    have hol : ((xs.take s).drop 20).length = n1 := by rw [List.length_drop, List.length_take, hxl.out]; omega
    obtain ⟨ys, hys⟩ : ∃ ys, hdB tos id fl ttl proto slo dlo ((xs.take s).drop 20) m1 ++ (xs.take al).drop s = ys := ⟨_, rfl⟩
    have hyl : ys.length = al := by
      rw [← hys, List.length_append, hdB_length, hol, List.length_drop, List.length_take, hxl.out]
      omega
    have hagi : ∀ i, i < al → i ≠ 10 → i ≠ 11 → ys.getD i 0 = xs.getD i 0 := by
      obtain ⟨a, b, hab⟩ := hag
      intro i hi h10 h11
      rw [hys] at hab
      have := again_get ys (xs.take al) a b hab i h10 h11
      rw [List.getElem?_take_of_lt hi] at this
      simp only [List.getD, this]
    have haln : al ≤ n := h7
    clear hag
    have hok := fun W hW => parse_okL A n c xs W hW hnc1 (by omega) h1 h2 s hs h3 h4 h5 al hal h6 h7 h8 tos id fl ttl proto slo dlo e1 e2 e3 e4 e5 e6 e7 df mf frag e8 e9 e10 n1 m1 e11 e12
    have hwhy := fun W hW => why_ok A n c xs W hW hnc1 hn3 h1 h2 s hs h3 h4 h5 (by rw [hal]; exact h6) (by rw [hal]; exact h7) h8
    clear h5 h8 h2
    replace hok := hide hok
    replace hwhy := hide hwhy
    replace hs := hide hs
    replace hal := hide hal
    replace e1 := hide e1
    replace e2 := hide e2
    replace e3 := hide e3
    replace e4 := hide e4
    replace e5 := hide e5
    replace e6 := hide e6
    replace e7 := hide e7
    replace e8 := hide e8
    replace e9 := hide e9
    replace e10 := hide e10
    replace e11 := hide e11
    replace e12 := hide e12
    replace hfli := hide hfli
    replace b9 := hide b9
    replace b11 := hide b11
    replace hol := hide hol
    replace hys := hide hys
    replace hyl := hide hyl
    replace hagi := hide hagi
    go_enter Try.func11, Try.ntmps11
    go_wp2_with fail
    refine (cut_as A n0 c n _ hn0 hnc hn.out).mono ?_
    rintro e w' ⟨rfl, rfl⟩
    go_wp2_with fail
    refine (hok.out _ hx.out).mono ?_
    rintro e w1 ⟨A1, c1, A2, c2, rfl, hi1, hc1, hm1, hi2, hb1⟩
    obtain ⟨w2, hw2⟩ : ∃ w2, w1.alloc (hdC tos id df mf frag ttl proto false 0 slo false 0 dlo A1 n1 c1) = w2 := ⟨_, rfl⟩
    have hb2 : Below w1.heap.size w1 w2 := hw2 ▸ (Below.refl _ _).alloc (Nat.le_refl _) _
    have hg2 := hw2 ▸ blk_new w1 86 #[.int .i64 tos, .int .i64 id, .bool df, .bool mf, .int .i64 frag, .int .i64 ttl, .int .i64 proto, .bool false, .int .u64 0, .int .u64 slo, .bool false, .int .u64 0, .int .u64 dlo, .slice A1 n1 c1]
    have hlt2 : w1.heap.size < w2.heap.size := by rw [← hw2]; simp
    unfold hdC at hw2
    have hx2 := (hx.out.on hb1).on hb2
    have hi12 := hi1.on hb2
    have hi22 := hi2.on hb2
    have hB2 := hb1.trans (hb2.mono hb1.size)
    clear hi1 hi2 hb1 hb2
    replace hg2 := hide hg2
    replace hx2 := hide hx2
    replace hi12 := hide hi12
    replace hi22 := hide hi22
    replace hB2 := hide hB2
    go_wp2_with fail
    refine (hwhy.out _ hx2.out).mono ?_
    rintro e w3 ⟨rfl, hb3⟩
    clear hw2
    have hg3 := blk_below hb3 hlt2 hg2.out
    have hcg := blk_cell hg3
    have hz3 := hb3.size
    have hx3 := hx2.out.on hb3
    have hi13 := hi12.out.on hb3
    have hi23 := hi22.out.on hb3
    have hB3 := hB2.out.trans (hb3.mono hB2.out.size)
    replace hb3 := hide hb3
    replace hg3 := hide hg3
    replace hx3 := hide hx3
    replace hi13 := hide hi13
    replace hi23 := hide hi23
    replace hB3 := hide hB3
    go_wp2_with fail
    refine (lawBytes_any tos id df mf frag ttl proto slo dlo fl hfli.out A1 n1 c1 _ A2 m1 c2 _ _ b1 b2 b3 b4 b5 b6 b7 b8 hi13.out hi23.out b10).mono ?_
    rintro e w4 ⟨v4, rfl, hown4, hb4⟩
    rw [hys.out] at hown4
    have hg4 := blk_below hb4 (Nat.lt_of_lt_of_le hlt2 hz3) hg3.out
    have hcg4 := blk_cell hg4
    have hx4 := hx3.out.on hb4
    have hB4 := hB3.out.trans (hb4.mono hB3.out.size)
    clear hcg
    replace hb4 := hide hb4
    replace hg4 := hide hg4
    replace hx4 := hide hx4
    replace hB4 := hide hB4
    obtain ⟨A4, c4, rfl, hc4, hm4, hi4⟩ := hown4.form
    rw [hyl.out] at hc4 hi4 ⊢
    clear hown4
    replace hi4 := hide hi4
    go_wp2_with fail
    refine (lawRight_yes tos id df mf frag ttl proto slo dlo A1 n1 c1 _ (by omega) (by omega) (by omega) (by omega) (by omega) (by omega) (by omega) (by omega) (by omega) (by omega) (by omega) (by omega) b8 b9.out).mono ?_
    rintro e w5 ⟨rfl, hb5⟩
    have hx5 := hx4.out.on hb5
    have hi5 := hi4.out.on hb5
    have hB5 := hB4.out.trans (hb5.mono hB4.out.size)
    clear hcg4
    replace hb5 := hide hb5
    replace hx5 := hide hx5
    replace hi5 := hide hi5
    replace hB5 := hide hB5
    have t1 : ¬ (n : Int) < (al : Int) := by omega
    go_wp2_with fail
    go_loopw [7] (fun i wr => ∃ j : Nat, j ≤ al ∧ i = .int .i64 (j : Int) ∧ Below w5.heap.size w5 wr) (fun i _ => al - (intOf i).toNat)
    case atStart => exact ⟨0, Nat.zero_le _, rfl, Below.refl _ _⟩
    case round =>
      obtain ⟨j, hj, rfl, hbr⟩ := hrel
      have hxr := hx5.out.on hbr
      have hir := hi5.out.on hbr
      replace hbr := hide hbr
      by_cases hlt : j < al
      · have hjn : j < n := by omega
        obtain ⟨bx, ox, u, rfl, hbx, hu, _, hcx⟩ := hxr.byte (i := j) hjn
        obtain ⟨by_, oy, v, rfl, hby, hv, _, hcy⟩ := hir.byte (i := j) hlt
        have hji : (j : Int) < (al : Int) := by omega
        have hjni : (j : Int) < (n : Int) := by omega
        have hj0 : (0 : Int) ≤ (j : Int) := by omega
        have huv : j ≠ 10 → j ≠ 11 → v = u := fun h10 h11 => by rw [← hu, ← hv, hagi.out j hlt h10 h11]
        clear hu hv hxr hir
        replace huv := hide huv
        go_wp2_with fail
        by_cases huv2 : v = u
        · subst huv2
          go_quiet (fail)
          go_wp2_with fail
          exact ⟨⟨j + 1, by omega, by go_num, hbr.out.trans (below_drewN _ _ _)⟩, by simp [intOf]; omega⟩
        · have h1011 : j = 10 ∨ j = 11 := by
            by_cases h10 : j = 10
            · exact .inl h10
            · by_cases h11 : j = 11
              · exact .inr h11
              · exact absurd (huv.out h10 h11) huv2
          have hne : ((v : Int) != (u : Int)) = true := by simp; omega
          replace huv := hide huv
          rcases h1011 with h10 | h11
          · have q1 : ((j : Int) != 10) = false := by simp; omega
            replace h10 := hide h10
            go_quiet (fail)
            go_wp2_with fail
            exact ⟨⟨j + 1, by omega, by go_num, hbr.out.trans (below_drewN _ _ _)⟩, by simp [intOf]; omega⟩
          · have q1 : ((j : Int) != 10) = true := by simp; omega
            have q2 : ((j : Int) != 11) = false := by simp; omega
            replace h11 := hide h11
            go_quiet (fail)
            go_wp2_with fail
            exact ⟨⟨j + 1, by omega, by go_num, hbr.out.trans (below_drewN _ _ _)⟩, by simp [intOf]; omega⟩
      · obtain rfl : j = al := by omega
        go_wp2_with fail
        refine (awake_any _).mono ?_
        rintro e w6 ⟨rfl, hb6⟩
        replace hb6 := hide hb6
        go_wp2_with fail
        go_ret
        exact ⟨rfl, hB5.out.trans ((hbr.out.trans (hb6.out.mono hbr.out.size)).mono hB5.out.size)⟩
end Four
end Go.Proofs.Ytniieckjooahfaa
