/- The statement FourQuotes, walked: what any bytes quote, and what goes into a check. Conditions: slices of bytes that read as lists, numbers of 64 bits. -/
import Derived.Test.YtniieckjooahfaaFourQuotesA
import Derived.Test.YtniieckjooahfaaFourQuotesB
namespace Go.Proofs.Ytniieckjooahfaa
open Go.RowKit Go.ChangeShapes Go.WideShapes Go.ChangeAt Go.Deep
namespace Four
set_option maxRecDepth 20000 in
set_option maxHeartbeats 8000000 in
theorem quotes_walk (A : Option Addr) (n0 c : Nat) (xs0 : List UInt8) (sv : Bool) (shi slo0 : Int) (dv : Bool) (dhi dlo0 : Int) (proto0 size0 : Int) (w : World) (hx0 : IsB w w.heap.size A n0 xs0) (hnc : n0 ≤ c) (hcm : c ≤ maxLen)
    (hw1 : (Lit.int .u64 shi).wf = true) (hw2 : (Lit.int .u64 slo0).wf = true) (hw3 : (Lit.int .u64 dhi).wf = true) (hw4 : (Lit.int .u64 dlo0).wf = true) (hw5 : (Lit.int .i64 proto0).wf = true) (hw6 : (Lit.int .i64 size0).wf = true) :
    Calls Try.prog 13 #[.slice A n0 c, .agg #[.bool sv, .int .u64 shi, .int .u64 slo0], .agg #[.bool dv, .int .u64 dhi, .int .u64 dlo0], .int .i64 proto0, .int .i64 size0] w fun e w' => e = .returned (.bool true) ∧ Below w.heap.size w w' := by
  obtain ⟨n, hn⟩ : ∃ n, min n0 300 = n := ⟨_, rfl⟩
  obtain ⟨xs, hxs⟩ : ∃ xs, xs0.take n = xs := ⟨_, rfl⟩
  have hx : IsB w w.heap.size A n xs := hxs ▸ hx0.take (m := n) (by omega)
  have hn3 : n ≤ 300 := by omega
  have hnc1 : n ≤ c := by omega
  have hn0 : n0 ≤ maxLen := by omega
  have hxl := hx.1
  obtain ⟨w1, hw1'⟩ : ∃ w1, (w.alloc (.cells #[.bool sv, .int .u64 shi, .int .u64 slo0] 24)).alloc (.cells #[.bool dv, .int .u64 dhi, .int .u64 dlo0] 24) = w1 := ⟨_, rfl⟩
  have hb1 : Below w.heap.size w w1 := hw1' ▸ ((Below.refl _ _).alloc (Nat.le_refl _) _).alloc (by simp) _
  have hz1 : w1.heap.size = w.heap.size + 2 := by rw [← hw1']; simp
  have hgs : w1.heap[w.heap.size]? = some (.cells #[.bool sv, .int .u64 shi, .int .u64 slo0] 24 (0, 0)) := by rw [← hw1']; exact blk_old _ (by simp) (blk_new _ _ _)
  have hgd : w1.heap[w.heap.size + 1]? = some (.cells #[.bool dv, .int .u64 dhi, .int .u64 dlo0] 24 (0, 0)) := by
    have := blk_new (w.alloc (.cells #[.bool sv, .int .u64 shi, .int .u64 slo0] 24)) 24 #[.bool dv, .int .u64 dhi, .int .u64 dlo0]
    rw [hw1'] at this
    simpa using this
  have hx1 := hx.on hb1
  obtain ⟨k, hk⟩ : ∃ k, quoteK n xs = k := ⟨_, rfl⟩
  replace hxl := hide hxl
  replace hx := hide hx
  replace hx1 := hide hx1
  replace hn := hide hn
  replace hk := hide hk
  replace hgs := hide hgs
  replace hgd := hide hgd
  replace hb1 := hide hb1
  replace hz1 := hide hz1
  replace hw1 := hide hw1
  replace hw2 := hide hw2
  replace hw3 := hide hw3
  replace hw4 := hide hw4
  replace hw5 := hide hw5
  replace hw6 := hide hw6
  clear hx0 hxs
  go_enter Try.func13, Try.ntmps13
  go_wp2_with fail
  refine (cut_as A n0 c n _ hn0 hnc hn.out).mono ?_
  rintro e w' ⟨rfl, rfl⟩
  go_wp2_with fail
  refine (quote_any A n c xs _ hx1.out hnc1 hcm (by omega) k hk.out).mono ?_
  rintro e w2 ⟨tos, id, df, mf, frag, ttl, proto, slo, dlo, A1, n1, c1, A2, m2, c2, rfl, hn1, hq, hb2⟩
  clear hw1'
  obtain ⟨w3, hw3'⟩ : ∃ w3, w2.alloc (hdC tos id df mf frag ttl proto false 0 slo false 0 dlo A1 n1 c1) = w3 := ⟨_, rfl⟩
  have hb3 : Below w2.heap.size w2 w3 := hw3' ▸ (Below.refl _ _).alloc (Nat.le_refl _) _
  have hg3 := hw3' ▸ blk_new w2 86 #[.int .i64 tos, .int .i64 id, .bool df, .bool mf, .int .i64 frag, .int .i64 ttl, .int .i64 proto, .bool false, .int .u64 0, .int .u64 slo, .bool false, .int .u64 0, .int .u64 dlo, .slice A1 n1 c1]
  have hlt3 : w2.heap.size < w3.heap.size := by rw [← hw3']; simp
  unfold hdC at hw3'
  have hx3 := (hx1.out.on hb2).on hb3
  have hB3 : Below w1.heap.size w1 w3 := hb2.trans (hb3.mono hb2.size)
  have hq3 : k = 0 → Quoted w3 n xs frag ttl proto slo dlo n1 A2 m2 := fun h => (hq h).on hb3
  clear hb2 hb3 hq
  replace hg3 := hide hg3
  replace hx3 := hide hx3
  replace hB3 := hide hB3
  replace hq3 := hide hq3
  go_wp2_with fail
  refine (why_any A n c xs _ hx3.out hnc1 hn3).mono ?_
  rintro e w4 ⟨kw, rfl, hkw1, hkw2, hb4⟩
  clear hw3'
  have hlt4 := Nat.lt_of_lt_of_le hlt3 hb4.size
  have hg4 := blk_below hb4 hlt3 hg3.out
  have hx4 := hx3.out.on hb4
  have hB4 : Below w1.heap.size w1 w4 := hB3.out.trans (hb4.mono hB3.out.size)
  have hq4 : k = 0 → Quoted w4 n xs frag ttl proto slo dlo n1 A2 m2 := fun h => (hq3.out h).on hb4
  replace hb4 := hide hb4
  replace hg4 := hide hg4
  replace hx4 := hide hx4
  replace hB4 := hide hB4
  replace hq4 := hide hq4
  clear hg3 hx3 hB3 hq3
  replace hkw1 := hide hkw1
  replace hkw2 := hide hkw2
  obtain ⟨bb, hbb⟩ : ∃ bb, decide (20 ≤ n ∧ (xs.getD 0 0).toNat / 16 = 4) = bb := ⟨_, rfl⟩
  replace hbb := hide hbb
  go_upto_region 4 with fail
  go_cut [36] (fun s36 wx => s36 = .bool bb ∧ w4 = wx)
  case first =>
    by_cases h1 : n < 20
    · have t1 : ¬ 20 ≤ n := by omega
      have e : bb = false := by rw [← hbb.out]; exact decide_eq_false (by omega)
      go_wp2_with fail
      go_meet
      exact ⟨by rw [e], rfl⟩
    obtain ⟨b, off, v0, rfl, hbl, hv0, hv0l, hc0⟩ := hx4.out.byte (i := 0) (by omega)
    rw [Nat.add_zero] at hc0
    have i0 : (0 : Int) < (n : Int) := by omega
    have t1 : 20 ≤ n := by omega
    by_cases h2 : v0 / 16 = 4
    · have e : bb = true := by rw [← hbb.out]; exact decide_eq_true ⟨t1, by rw [hv0]; exact h2⟩
      have hb : (((v0 : Int) / 16) == 4) = true := by rw [beq_iff_eq]; omega
      replace hv0 := hide hv0
      replace e := hide e
      replace h2 := hide h2
      go_wp2_with fail
      go_meet
      exact ⟨by rw [e.out], rfl⟩
    · have e : bb = false := by rw [← hbb.out]; exact decide_eq_false (by rw [hv0]; omega)
      have hb : (((v0 : Int) / 16) == 4) = false := by rw [beq_eq_false_iff_ne]; omega
      replace hv0 := hide hv0
      replace e := hide e
      go_wp2_with fail
      go_meet
      exact ⟨by rw [e.out], rfl⟩
  case rest =>
  obtain ⟨rfl, rfl⟩ := hcut
  go_upto_if 36 with fail
  go_cut [14] (fun s14 wx => s14 = .int .i64 (k : Int) ∧ w4 = wx)
  case first =>
    have hk' := hk.out
    unfold quoteK at hk'
    rcases bb with _ | _
    · have hf := of_decide_eq_false hbb.out
      have e : kw = k := by
        by_cases h1 : n < 20
        · rw [if_pos h1] at hk'
          rw [hkw1.out h1, hk']
        · rw [if_neg h1, if_pos (by omega)] at hk'
          rw [hkw2.out (by omega) (by omega), hk']
      clear hk' hf
      subst e
      go_wp2_with fail
      go_meet
      exact ⟨rfl, rfl⟩
    obtain ⟨t1, h2⟩ := of_decide_eq_true hbb.out
    rw [if_neg (by omega), if_neg (by omega)] at hk'
    obtain ⟨b, off, v0, rfl, hbl, hv0, hv0l, hc0⟩ := hx4.out.byte (i := 0) (by omega)
    rw [Nat.add_zero] at hc0
    rw [hv0] at hk' h2
    have i0 : (0 : Int) < (n : Int) := by omega
    obtain ⟨r, hr⟩ : ∃ r, v0 % 16 = r := ⟨_, rfl⟩
    have e0 : (v0 : Int) % 16 = (r : Int) := by omega
    rw [hr] at hk'
    have hr15 : r ≤ 15 := by omega
    replace hv0 := hide hv0
    replace hr := hide hr
    replace h2 := hide h2
    by_cases h3 : r < 5
    · have t2 : (r : Int) < 5 := by omega
      rw [if_pos (by omega)] at hk'
      subst hk'
      go_wp2_with fail
      go_meet
      exact ⟨rfl, rfl⟩
    · have t2 : ¬ (r : Int) < 5 := by omega
      by_cases h4 : n < r * 4
      · have t3 : (n : Int) < (r : Int) * 4 := by omega
        rw [if_pos (by omega)] at hk'
        subst hk'
        go_wp2_with fail
        go_meet
        exact ⟨rfl, rfl⟩
      · have t3 : ¬ (n : Int) < (r : Int) * 4 := by omega
        rw [if_neg (by omega)] at hk'
        subst hk'
        go_wp2_with fail
        go_meet
        exact ⟨rfl, rfl⟩
  case rest =>
  obtain ⟨rfl, rfl⟩ := hcut
  go_upto_if 57 with fail
  go_cut [15] (fun s15 wx => Below w4.heap.size w4 wx)
  case first =>
    by_cases hk0 : k = 0
    · have hkb : ((k : Int) == 0) = true := by rw [beq_iff_eq]; omega
      replace hk0 := hide hk0
      have hQd := hq4.out hk0.out
      have hQd2 := hQd
      obtain ⟨q1, q2, q3, q4, q5, q6, q7, q8, q9, q9', q10⟩ := hQd2
      obtain ⟨b, off, v0, rfl, hbl, hv0, hv0l, hc0⟩ := hx4.out.byte (i := 0) (by omega)
      rw [Nat.add_zero] at hc0
      rw [hv0] at q2 q8
      obtain ⟨r, hr⟩ : ∃ r, v0 % 16 = r := ⟨_, rfl⟩
      rw [hr] at q8
      obtain ⟨s, hs⟩ : ∃ s, n1 + 20 = s := ⟨_, rfl⟩
      rw [hs] at q8 q9 q9' q10
      have e0 : (v0 : Int) % 16 = (r : Int) := by omega
      have e1 : (r : Int) * 4 = (s : Int) := by omega
      have i0 : (0 : Int) < (n : Int) := by omega
      replace hr := hide hr
      replace hs := hide hs
      replace hv0 := hide hv0
      replace hQd := hide hQd
      clear q1 q2 q3 q4 q5 q6 q7 q8 q9 q9' q10
      go_wp2_with fail
      refine quotes_reg12 _ w4 _ b off n c xs tos id df mf frag ttl proto slo dlo A1 n1 c1 A2 m2 c2 s hx4 hnc1 hcm hn3 hn1 hg4 hlt4 hQd.out hs.out _ _ _ _ _ _ _ _ _ _ _ _ _ _ _ _ _ _ _ _ _ _ _ _ _ _ _ _ _ _ _ _ _ _ _ _ _ _ _ _ _ _ _ _ _ _ _ _ _ _ _ _ _ _ _ _ _ _ _ _ _ _ _ _ _ _ _ _ _ _ _ _ _ _ _ _ _ _ _ _ _ _ _ _ _ _ _ _ _ _ _ _ _ _ _ _ _ _ _ _ _ _ _ _ _ _ _ _ _ _ _ _ _ _ _ _ _ _ _ _ _ _ _ _ _ _ _ _ _ _ _ _ _ _ _ _ _ _ _ _ _ _ _ _ _ _ _ _ _ _ _ _ _ _ _ _ _ _ _ _ _ _ _ (fun d _ _ _ _ h => by cases d <;> exact h) ?_
      intro y64 y65 y66 y67 y68 y69 y70 y71 y72 y73 y74 y75 y76 y77 y78 y79 y80 y81 y82 y83 y84 y85 y86 y87 y88 y89 y90 y91 y92 y93 y94 y95 y96 y97 y98 y99 y100 y101 y102 y103 y104 y105 y106 y107 y108 y109 y110 y111 y112 y113 y114 y115 y116 y117 y118 y119 y120 y121 y122 y123 y124 y125 y126 y127 y128 y129 w8 hb48
      replace hb48 := hide hb48
      go_wp2_with fail
      go_meet
      exact hb48.out
    · have hkb : ((k : Int) == 0) = false := by rw [beq_eq_false_iff_ne]; omega
      go_wp2_with fail
      go_meet
      exact Below.refl _ _
  case rest =>
  refine (‹∀ (a : Act) (w : World), Code.wp Try.prog _ _ a w → _›) _ _ ?_
  exact quotes_tail w w1 _ sv shi slo0 dv dhi dlo0 proto0 size0 hb1 hz1 hgs hgd hw1 hw2 hw3 hw4 hw5 hw6 (hB4.out.trans (hcut.mono hB4.out.size)) _ _ _ _ _ _ _ _ _ _ _ _ _ _ _ _ _ _ _ _ _ _ _ _ _ _ _ _ _ _ _ _ _ _ _ _ _ _ _ _ _ _ _ _ _ _ _ _ _ _ _ _ _ _ _ _ _ _ _ _ _ _ _ _ _ _ _ _ _ _ _ _ _ _ _ _ _ _ _ _ _ _ _ _ _ _ _ _ _ _ _ _ _ _ _ _ _ _ _ _ _ _ _ _ _ _ _ _ _ _ _ _ _ _ _ _ _ _ _ _ _ _ _ _ _ _ _ _ _ _ _ _ _ _ _ _ _ _ _ _ _ _ _ _ _ _ _ _ _ _ _ _ _ _ _ _ _ _ _ _ _
end Four
end Go.Proofs.Ytniieckjooahfaa
