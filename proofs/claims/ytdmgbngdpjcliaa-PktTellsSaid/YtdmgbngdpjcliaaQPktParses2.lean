/- Law 13's parse, by contract, for each kind of packet. Conditions: what outer makes of the bytes. (Written by gen_pktlaw.py) -/
import Derived.Test.YtdmgbngdpjcliaaQPktParses1
import Derived.Test.YtdmgbngdpjcliaaQPktBig15
namespace Go.Proofs.Ytdmgbngdpjcliaa
open Go.RowKit Go.ChangeShapes Go.WideShapes Go.ChangeAt Go.Deep
namespace Pkt
def OuterIs (n : Nat) (xs : List UInt8) (K : Nat) (cs : Array Value) (rest ps : List UInt8) : Prop :=
  ∀ (A : Option Addr) (c : Nat) (w : World), IsB w w.heap.size A n xs → n ≤ c → c ≤ maxLen → Calls Try.prog 60 #[.slice A n c] w fun e w' => OuterEnd K cs rest ps w w' e
set_option maxRecDepth 20000 in
set_option maxHeartbeats 16000000 in
theorem law_bad (n : Nat) (xs0 : List UInt8) (K : Nat) (hK0 : K ≠ 0) (cs : Array Value) (xs ps : List UInt8) (hO : OuterIs n xs0 K cs xs ps) (y : Array Value) (A : Option Addr) (c : Nat) (w : World) (hx : IsB w w.heap.size A n xs0) (hnc : n ≤ c) (hcm : c ≤ maxLen) :
    Calls Try.prog 31 #[.slice A n c] w fun e w' => End2 K y w w' e := by
  have t1 : ((K : Int) != 0) = true := by rw [bne_iff_ne]; omega
  obtain ⟨zs, hzs⟩ : ∃ zs, pkZ = zs := ⟨_, rfl⟩
  have hbz : Below w.heap.size w (w.alloc (.cells pkZ 58)) := (Below.refl _ _).alloc (Nat.le_refl _) _
  have hgz := blk_new w 58 pkZ
  obtain ⟨w1, hw1⟩ : ∃ w1, w.alloc (.cells pkZ 58) = w1 := ⟨_, rfl⟩
  have hz1 : w.heap.size < w1.heap.size := by rw [← hw1]; simp
  rw [hw1] at hbz hgz
  rw [hzs] at hgz
  unfold pkZ at hw1
  have hzz : zs.size = 23 := hzs ▸ pkZ_size
  have hOc := hO A c w1 (hx.on hbz) hnc hcm
  replace hx := hide hx
  replace hbz := hide hbz
  replace hgz := hide hgz
  replace hOc := hide hOc
  replace hO := hide hO
  replace hzs := hide hzs
  go_enter Try.func31, Try.ntmps31
  go_upto_region 1 with fail
  clear hw1
  apply wp_region_lit
  iterate 1 (refine wpList_plain rfl fun K hK => ?_; go_simp; refine hK _ _ ?_; clear hK K)
  refine wpList_plain rfl fun K hK => ?_
  go_simp
  refine (hOc.out).mono ?_
  rintro e w2 hE
  obtain ⟨z, r, p, rfl, hzs2, hzo, hgood, hb2⟩ := hE
  have z2 := hb2.size
  have hB2 := hbz.out.trans (hb2.mono (by omega))
  have hg2 := blk_below hb2 (by omega) hgz.out
  clear hb2 hgood
  replace hzo := hide hzo
  replace hB2 := hide hB2
  replace hg2 := hide hg2
  go_simp
  refine hK _ _ ?_
  clear hK K
  iterate 5 (refine wpList_plain rfl fun K hK => ?_; go_simp; refine hK _ _ ?_; clear hK K)
  refine wpl_new rfl rfl 58 _ (alloc_pk _ rfl) 4 rfl (.tmp 21) rfl _ (fun _ => rfl) (fun _ => rfl) (by rw [pkZ_size]; exact hzs2) (by rw [size_pk, hzs2]) hzo.out ?_
  intro w3 hgp hb3 hz3
  have z3 := hb3.size
  have hB3 := hB2.out.trans (hb3.mono hB2.out.size)
  have hg3 := blk_below hb3 (by omega) hg2.out
  clear hb3 hB2 hg2
  iterate 3 (refine wpList_plain rfl fun K hK => ?_; go_simp; refine hK _ _ ?_; clear hK K)
  refine wpList_nil ?_
  replace hgp := hide hgp
  replace hB3 := hide hB3
  replace hg3 := hide hg3
  go_upto_region 3 with fail
  apply wp_region_lit
  iterate 2 (refine wpList_plain rfl fun K hK => ?_; go_simp; refine hK _ _ ?_; clear hK K)
  refine wpl_st rfl 58 (.tmp 2) (.tmp 27) rfl w.heap.size 0 rfl pkZ rfl hg3.out (by rw [hzz, pkZ_size]; omega) size_pk pkZ_one fun w9 hg9 g9 => ?_
  rw [putA_whole _ _ (by rw [hzz, pkZ_size])] at hg9
  have hB9 := hB3.out.trans (below_grown g9 (by have := hB3.out.size; omega) (by omega))
  have hld : (loadVar 58 ⟨w.heap.size, 0, none⟩).run Try.prog w9 = .ok (.agg pkZ) w9 := by
    simpa using run_loadVar_mid w9 w.heap.size 0 58 pkZ.toList _ (blk_range hg9) Try.underlying58 rfl (by rw [size_pk, Array.length_toList, pkZ_size])
  have hfin := end_bad (y := y) (K : Nat) hK0 hB9
  clear g9
  replace hg9 := hide hg9
  replace hB9 := hide hB9
  replace hfin := hide hfin
  replace hld := hide hld
  iterate 1 (refine wpList_plain rfl fun K hK => ?_; go_simp; refine hK _ _ ?_; clear hK K)
  refine wpList_nil ?_
  go_wp2_with fail
  exact bodyPost_ret (v := .tuple #[.agg pkZ, .int .i64 ((K : Nat) : Int)]) (by simp [results, Try.results31, asAddr, hld.out, Result.andThen]) rfl hfin.out
set_option maxRecDepth 20000 in
set_option maxHeartbeats 16000000 in
theorem law_tcp (n : Nat) (xs0 : List UInt8) (cs : Array Value) (hcs : cs.size = 23) (hone : cs.all (·.oneCell') = true) (v6 : Bool) (h0 : cs[0]? = some (.bool v6)) (pr : Int) (h1 : cs[1]? = some (.int .i64 pr)) (xs ps : List UInt8) (hO : OuterIs n xs0 0 cs xs ps) (A : Option Addr) (c : Nat) (w : World)
    (hx : IsB w w.heap.size A n xs0) (hnc : n ≤ c) (hcm : c ≤ maxLen) (hnm : xs.length ≤ 1099511627776) (hm : ps.length ≤ maxLen) (hpr : pr = 6) (K : Nat) (hK : Tcp.parseK ps xs = K) (y : Array Value) (hy : K = 0 → y = tcpA cs (Tcp.parseS K xs 0) (Tcp.parseS K xs 2) (Tcp.parseF K xs)) :
    Calls Try.prog 31 #[.slice A n c] w fun e w' => End2 K y w w' e := by
  subst hpr
  obtain ⟨n5, hn⟩ : ∃ n, xs.length = n := ⟨_, rfl⟩
  obtain ⟨pn, hpn⟩ : ∃ n, ps.length = n := ⟨_, rfl⟩
  obtain ⟨zs, hzs⟩ : ∃ zs, pkZ = zs := ⟨_, rfl⟩
  have hbz : Below w.heap.size w (w.alloc (.cells pkZ 58)) := (Below.refl _ _).alloc (Nat.le_refl _) _
  have hgz := blk_new w 58 pkZ
  obtain ⟨w1, hw1⟩ : ∃ w1, w.alloc (.cells pkZ 58) = w1 := ⟨_, rfl⟩
  have hz1 : w.heap.size < w1.heap.size := by rw [← hw1]; simp
  rw [hw1] at hbz hgz
  rw [hzs] at hgz
  unfold pkZ at hw1
  have hzz : zs.size = 23 := hzs ▸ pkZ_size
  have hOc := hO A c w1 (hx.on hbz) hnc hcm
  replace hx := hide hx
  replace hbz := hide hbz
  replace hgz := hide hgz
  replace hOc := hide hOc
  replace hO := hide hO
  replace hzs := hide hzs
  replace hone := hide hone
  replace h0 := hide h0
  replace h1 := hide h1
  replace hK := hide hK
  replace hy := hide hy
  go_enter Try.func31, Try.ntmps31
  go_upto_region 1 with fail
  clear hw1
  apply wp_region_lit
  iterate 1 (refine wpList_plain rfl fun K hK => ?_; go_simp; refine hK _ _ ?_; clear hK K)
  refine wpList_plain rfl fun K hK => ?_
  go_simp
  refine (hOc.out).mono ?_
  rintro e w2 hE
  obtain ⟨z, r, p, rfl, hzs2, hzo, hgood, hb2⟩ := hE
  obtain ⟨hzc, A5, c5, P5, d5, rfl, rfl, hi2, hj2, hc5, hm5⟩ := hgood rfl
  replace hzc := hzc.symm
  subst hzc
  rw [hn] at hi2 hc5 ⊢
  rw [hpn] at hj2 ⊢
  have z2 := hb2.size
  have hB2 := hbz.out.trans (hb2.mono (by omega))
  have hg2 := blk_below hb2 (by omega) hgz.out
  clear hb2 hgood
  replace hzo := hide hzo
  replace hB2 := hide hB2
  replace hg2 := hide hg2
  replace hi2 := hide hi2
  replace hj2 := hide hj2
  go_simp
  refine hK _ _ ?_
  clear hK K
  iterate 5 (refine wpList_plain rfl fun K hK => ?_; go_simp; refine hK _ _ ?_; clear hK K)
  refine wpl_new rfl rfl 58 _ (alloc_pk _ rfl) 4 rfl (.tmp 21) rfl _ (fun _ => rfl) (fun _ => rfl) (by rw [pkZ_size]; exact hzs2) (by rw [size_pk, hzs2]) hzo.out ?_
  intro w3 hgp hb3 hz3
  have z3 := hb3.size
  have hB3 := hB2.out.trans (hb3.mono hB2.out.size)
  have hg3 := blk_below hb3 (by omega) hg2.out
  have hi3 := hi2.out.on hb3
  have hj3 := hj2.out.on hb3
  clear hi2 hj2
  have hcg0 := (blk_cell hgp 0).trans h0.out
  have hcg1 := (blk_cell hgp 1).trans h1.out
  clear hb3 hB2 hg2
  iterate 3 (refine wpList_plain rfl fun K hK => ?_; go_simp; refine hK _ _ ?_; clear hK K)
  refine wpList_nil ?_
  have hTc := Tcp.parse_any A5 P5 xs.length c5 ps.length d5 xs ps w3 (by rw [hn]; exact hi3) (by rw [hpn]; exact hj3) (by omega) hm5 hnm hm K hK.out
  rw [hn, hpn] at hTc
  replace hTc := hide hTc
  replace hgp := hide hgp
  replace hB3 := hide hB3
  replace hg3 := hide hg3
  replace hi3 := hide hi3
  replace hj3 := hide hj3
  go_wp2_with fail
  refine hTc.out.mono ?_
  rintro e w4 ⟨sq, ak, wn, ug, A3, n3, c3, A4, n4, c4, rfl, hb4⟩
  clear hcg0 hcg1
  obtain ⟨s0, hs0⟩ : ∃ s, Tcp.parseS K xs 0 = s := ⟨_, rfl⟩
  obtain ⟨s2, hs2⟩ : ∃ s, Tcp.parseS K xs 2 = s := ⟨_, rfl⟩
  obtain ⟨fl, hfl⟩ : ∃ s, Tcp.parseF K xs = s := ⟨_, rfl⟩
  rw [hs0, hs2, hfl] at hy
  rw [hs0, hs2, hfl]
  replace hy := hide hy
  replace hs0 := hide hs0
  replace hs2 := hide hs2
  replace hfl := hide hfl
  obtain ⟨w5, hw5⟩ : ∃ w5, w4.alloc (.cells #[.int .i64 (s0 : Int), .int .i64 (s2 : Int), .int .u32 sq, .int .u32 ak, .int .i64 (fl : Int), .int .i64 wn, .int .i64 ug, .slice A3 n3 c3] 92) = w5 := ⟨_, rfl⟩
  have z4 := hb4.size
  have hb45 : Below w4.heap.size w4 w5 := hw5 ▸ (Below.refl _ _).alloc (Nat.le_refl _) _
  have hgm : w5.heap[w4.heap.size]? = some (.cells #[.int .i64 (s0 : Int), .int .i64 (s2 : Int), .int .u32 sq, .int .u32 ak, .int .i64 (fl : Int), .int .i64 wn, .int .i64 ug, .slice A3 n3 c3] 92 (0, 0)) := hw5 ▸ blk_new _ _ _
  have hz5 : w4.heap.size < w5.heap.size := by rw [← hw5]; simp
  have z5 := hb45.size
  have hB5 := (hB3.out.trans (hb4.mono (by omega))).trans (hb45.mono (by omega))
  have hgp5 := blk_below hb45 (by omega) (blk_below hb4 (by omega) hgp.out)
  have hg5 := blk_below hb45 (by omega) (blk_below hb4 (by omega) hg3.out)
  have hch := blk_cell hgm
  clear hb4 hb45 hTc
  replace hgm := hide hgm
  replace hgp5 := hide hgp5
  replace hg5 := hide hg5
  replace hB5 := hide hB5
  obtain ⟨x1, hx1⟩ : ∃ x, cs[8]? = some x := ⟨_, Array.getElem?_eq_getElem (by omega)⟩
  have hcx1 := (blk_cell hgp5.out 8).trans hx1
  have hfx1 := blk_free hgp5.out 8
  obtain ⟨wq1, eq1, hq1, gq1⟩ := store_cell hgp5.out 8 (.int .i64 (s0 : Int))
  obtain ⟨cs1, hc1⟩ : ∃ x, cs.setIfInBounds 8 (.int .i64 (s0 : Int)) = x := ⟨_, rfl⟩
  rw [hc1] at hq1
  have hs1 : cs1.size = 23 := by rw [← hc1, Array.size_setIfInBounds, hcs]
  have ho1 : cs1.all (·.oneCell') = true := by rw [← hc1]; exact one_set hone.out _ rfl
  have zq1 := gq1.size
  have hm1 := grown_other gq1 (by omega) (by omega) hgm.out
  have hr1 := grown_other gq1 (by omega) (by omega) hg5.out
  have hB1q := hB5.out.trans (below_grown gq1 (by omega) (by omega))
  have hch1 := blk_cell hm1
  clear hx1 gq1
  replace hq1 := hide hq1
  replace hc1 := hide hc1
  replace ho1 := hide ho1
  replace hm1 := hide hm1
  replace hr1 := hide hr1
  replace hB1q := hide hB1q
  obtain ⟨x2, hx2⟩ : ∃ x, cs1[9]? = some x := ⟨_, Array.getElem?_eq_getElem (by omega)⟩
  have hcx2 := (blk_cell hq1.out 9).trans hx2
  have hfx2 := blk_free hq1.out 9
  obtain ⟨wq2, eq2, hq2, gq2⟩ := store_cell hq1.out 9 (.int .i64 (s2 : Int))
  obtain ⟨cs2, hc2⟩ : ∃ x, cs1.setIfInBounds 9 (.int .i64 (s2 : Int)) = x := ⟨_, rfl⟩
  rw [hc2] at hq2
  have hs2 : cs2.size = 23 := by rw [← hc2, Array.size_setIfInBounds, hs1]
  have ho2 : cs2.all (·.oneCell') = true := by rw [← hc2]; exact one_set ho1.out _ rfl
  have zq2 := gq2.size
  have hm2 := grown_other gq2 (by omega) (by omega) hm1.out
  have hr2 := grown_other gq2 (by omega) (by omega) hr1.out
  have hB2q := hB1q.out.trans (below_grown gq2 (by omega) (by omega))
  have hch2 := blk_cell hm2
  clear hx2 gq2
  replace hq2 := hide hq2
  replace hc2 := hide hc2
  replace ho2 := hide ho2
  replace hm2 := hide hm2
  replace hr2 := hide hr2
  replace hB2q := hide hB2q
  obtain ⟨x3, hx3⟩ : ∃ x, cs2[11]? = some x := ⟨_, Array.getElem?_eq_getElem (by omega)⟩
  have hcx3 := (blk_cell hq2.out 11).trans hx3
  have hfx3 := blk_free hq2.out 11
  obtain ⟨wq3, eq3, hq3, gq3⟩ := store_cell hq2.out 11 (.int .i64 (fl : Int))
  obtain ⟨cs3, hc3⟩ : ∃ x, cs2.setIfInBounds 11 (.int .i64 (fl : Int)) = x := ⟨_, rfl⟩
  rw [hc3] at hq3
  have hs3 : cs3.size = 23 := by rw [← hc3, Array.size_setIfInBounds, hs2]
  have ho3 : cs3.all (·.oneCell') = true := by rw [← hc3]; exact one_set ho2.out _ rfl
  have zq3 := gq3.size
  have hm3 := grown_other gq3 (by omega) (by omega) hm2.out
  have hr3 := grown_other gq3 (by omega) (by omega) hr2.out
  have hB3q := hB2q.out.trans (below_grown gq3 (by omega) (by omega))
  have hch3 := blk_cell hm3
  clear hx3 gq3
  replace hq3 := hide hq3
  replace hc3 := hide hc3
  replace ho3 := hide ho3
  replace hm3 := hide hm3
  replace hr3 := hide hr3
  replace hB3q := hide hB3q
  go_upto_region 26 with fail
  clear hcx1 hfx1 eq1 hch1
  clear hcx2 hfx2 eq2 hch2
  clear hcx3 hfx3 eq3 hch3
  clear hw5 hch
  by_cases hK0 : K = 0
  case neg =>
    have t3 : ((K : Int) != 0) = true := by rw [bne_iff_ne]; omega
    go_upto_region 27 with fail
    apply wp_region_lit
    iterate 2 (refine wpList_plain rfl fun K hK => ?_; go_simp; refine hK _ _ ?_; clear hK K)
    refine wpl_st rfl 58 (.tmp 2) (.tmp 120) rfl w.heap.size 0 rfl pkZ rfl hr3.out (by rw [hzz, pkZ_size]; omega) size_pk pkZ_one fun w9 hg9 g9 => ?_
    rw [putA_whole _ _ (by rw [hzz, pkZ_size])] at hg9
    have hB9 := hB3q.out.trans (below_grown g9 (by have := hB3q.out.size; omega) (by omega))
    have hld : (loadVar 58 ⟨w.heap.size, 0, none⟩).run Try.prog w9 = .ok (.agg pkZ) w9 := by
      simpa using run_loadVar_mid w9 w.heap.size 0 58 pkZ.toList _ (blk_range hg9) Try.underlying58 rfl (by rw [size_pk, Array.length_toList, pkZ_size])
    have hfin := end_bad (y := y) (K : Nat) hK0 hB9
    clear g9
    replace hg9 := hide hg9
    replace hB9 := hide hB9
    replace hfin := hide hfin
    replace hld := hide hld
    iterate 1 (refine wpList_plain rfl fun K hK => ?_; go_simp; refine hK _ _ ?_; clear hK K)
    refine wpList_nil ?_
    go_wp2_with fail
    exact bodyPost_ret (v := .tuple #[.agg pkZ, .int .i64 ((K : Nat) : Int)]) (by simp [results, Try.results31, asAddr, hld.out, Result.andThen]) rfl hfin.out
  subst hK0
  have hy7 : y = cs3 := by
    have h9 := hy.out (by simp)
    unfold tcpA at h9
    rw [hc1.out, hc2.out, hc3.out] at h9
    exact h9
  subst hy7
  go_upto_region 28 with fail
  apply wp_region_lit
  refine wpl_ld rfl 58 (.tmp 4) rfl w2.heap.size rfl y _ hq3.out Try.underlying58 rfl (by rw [size_pk, hs3]) ?_
  refine wpl_st rfl 58 (.tmp 2) (.tmp 122) rfl w.heap.size 0 rfl y rfl hr3.out (by rw [hzz, hs3]; omega) (by rw [size_pk, hs3]) ho3.out fun w9 hg9 g9 => ?_
  rw [putA_whole _ _ (by rw [hzz, hs3])] at hg9
  have hB9 := hB3q.out.trans (below_grown g9 (by have := hB3q.out.size; omega) (by omega))
  have hld : (loadVar 58 ⟨w.heap.size, 0, none⟩).run Try.prog w9 = .ok (.agg y) w9 := by
    simpa using run_loadVar_mid w9 w.heap.size 0 58 y.toList _ (blk_range hg9) Try.underlying58 rfl (by rw [size_pk, Array.length_toList, hs3])
  have hfin := end_good (y := y) hB9
  clear g9
  replace hg9 := hide hg9
  replace hB9 := hide hB9
  replace hfin := hide hfin
  replace hld := hide hld
  iterate 1 (refine wpList_plain rfl fun K hK => ?_; go_simp; refine hK _ _ ?_; clear hK K)
  refine wpList_nil ?_
  go_wp2_with fail
  exact bodyPost_ret (v := .tuple #[.agg y, .int .i64 0]) (by simp [results, Try.results31, asAddr, hld.out, Result.andThen]) rfl hfin.out
set_option maxRecDepth 20000 in
set_option maxHeartbeats 16000000 in
theorem law_udp (n : Nat) (xs0 : List UInt8) (cs : Array Value) (hcs : cs.size = 23) (hone : cs.all (·.oneCell') = true) (v6 : Bool) (h0 : cs[0]? = some (.bool v6)) (pr : Int) (h1 : cs[1]? = some (.int .i64 pr)) (xs ps : List UInt8) (hO : OuterIs n xs0 0 cs xs ps) (A : Option Addr) (c : Nat) (w : World)
    (hx : IsB w w.heap.size A n xs0) (hnc : n ≤ c) (hcm : c ≤ maxLen) (hnm : xs.length ≤ 1099511627776) (hm : ps.length ≤ maxLen) (hpr : pr = 17) (K : Nat) (hK : Udp.parseK (!v6) ps xs = K) (y : Array Value) (hy : K = 0 → y = udpA cs (Udp.parseS K xs 0) (Udp.parseS K xs 2)) :
    Calls Try.prog 31 #[.slice A n c] w fun e w' => End2 K y w w' e := by
  subst hpr
  obtain ⟨n5, hn⟩ : ∃ n, xs.length = n := ⟨_, rfl⟩
  obtain ⟨pn, hpn⟩ : ∃ n, ps.length = n := ⟨_, rfl⟩
  obtain ⟨zs, hzs⟩ : ∃ zs, pkZ = zs := ⟨_, rfl⟩
  have hbz : Below w.heap.size w (w.alloc (.cells pkZ 58)) := (Below.refl _ _).alloc (Nat.le_refl _) _
  have hgz := blk_new w 58 pkZ
  obtain ⟨w1, hw1⟩ : ∃ w1, w.alloc (.cells pkZ 58) = w1 := ⟨_, rfl⟩
  have hz1 : w.heap.size < w1.heap.size := by rw [← hw1]; simp
  rw [hw1] at hbz hgz
  rw [hzs] at hgz
  unfold pkZ at hw1
  have hzz : zs.size = 23 := hzs ▸ pkZ_size
  have hOc := hO A c w1 (hx.on hbz) hnc hcm
  replace hx := hide hx
  replace hbz := hide hbz
  replace hgz := hide hgz
  replace hOc := hide hOc
  replace hO := hide hO
  replace hzs := hide hzs
  replace hone := hide hone
  replace h0 := hide h0
  replace h1 := hide h1
  replace hK := hide hK
  replace hy := hide hy
  go_enter Try.func31, Try.ntmps31
  go_upto_region 1 with fail
  clear hw1
  apply wp_region_lit
  iterate 1 (refine wpList_plain rfl fun K hK => ?_; go_simp; refine hK _ _ ?_; clear hK K)
  refine wpList_plain rfl fun K hK => ?_
  go_simp
  refine (hOc.out).mono ?_
  rintro e w2 hE
  obtain ⟨z, r, p, rfl, hzs2, hzo, hgood, hb2⟩ := hE
  obtain ⟨hzc, A5, c5, P5, d5, rfl, rfl, hi2, hj2, hc5, hm5⟩ := hgood rfl
  replace hzc := hzc.symm
  subst hzc
  rw [hn] at hi2 hc5 ⊢
  rw [hpn] at hj2 ⊢
  have z2 := hb2.size
  have hB2 := hbz.out.trans (hb2.mono (by omega))
  have hg2 := blk_below hb2 (by omega) hgz.out
  clear hb2 hgood
  replace hzo := hide hzo
  replace hB2 := hide hB2
  replace hg2 := hide hg2
  replace hi2 := hide hi2
  replace hj2 := hide hj2
  go_simp
  refine hK _ _ ?_
  clear hK K
  iterate 5 (refine wpList_plain rfl fun K hK => ?_; go_simp; refine hK _ _ ?_; clear hK K)
  refine wpl_new rfl rfl 58 _ (alloc_pk _ rfl) 4 rfl (.tmp 21) rfl _ (fun _ => rfl) (fun _ => rfl) (by rw [pkZ_size]; exact hzs2) (by rw [size_pk, hzs2]) hzo.out ?_
  intro w3 hgp hb3 hz3
  have z3 := hb3.size
  have hB3 := hB2.out.trans (hb3.mono hB2.out.size)
  have hg3 := blk_below hb3 (by omega) hg2.out
  have hi3 := hi2.out.on hb3
  have hj3 := hj2.out.on hb3
  clear hi2 hj2
  have hcg0 := (blk_cell hgp 0).trans h0.out
  have hcg1 := (blk_cell hgp 1).trans h1.out
  clear hb3 hB2 hg2
  iterate 3 (refine wpList_plain rfl fun K hK => ?_; go_simp; refine hK _ _ ?_; clear hK K)
  refine wpList_nil ?_
  have hTc := Udp.parse_any A5 P5 xs.length c5 ps.length d5 xs ps (!v6) w3 (by rw [hn]; exact hi3) (by rw [hpn]; exact hj3) (by omega) hm5 hnm hm K hK.out
  rw [hn, hpn] at hTc
  replace hTc := hide hTc
  replace hgp := hide hgp
  replace hB3 := hide hB3
  replace hg3 := hide hg3
  replace hi3 := hide hi3
  replace hj3 := hide hj3
  go_wp2_with fail
  refine hTc.out.mono ?_
  rintro e w4 ⟨A3, n3, c3, rfl, _, _, _, hb4⟩
  clear hcg0 hcg1
  obtain ⟨s0, hs0⟩ : ∃ s, Udp.parseS K xs 0 = s := ⟨_, rfl⟩
  obtain ⟨s2, hs2⟩ : ∃ s, Udp.parseS K xs 2 = s := ⟨_, rfl⟩
  obtain ⟨bb, hbb⟩ : ∃ s, Udp.parseB K xs = s := ⟨_, rfl⟩
  rw [hs0, hs2] at hy
  rw [hs0, hs2, hbb]
  replace hy := hide hy
  replace hs0 := hide hs0
  replace hs2 := hide hs2
  replace hbb := hide hbb
  obtain ⟨w5, hw5⟩ : ∃ w5, w4.alloc (.cells #[.int .i64 (s0 : Int), .int .i64 (s2 : Int), .bool bb] 96) = w5 := ⟨_, rfl⟩
  have z4 := hb4.size
  have hb45 : Below w4.heap.size w4 w5 := hw5 ▸ (Below.refl _ _).alloc (Nat.le_refl _) _
  have hgm : w5.heap[w4.heap.size]? = some (.cells #[.int .i64 (s0 : Int), .int .i64 (s2 : Int), .bool bb] 96 (0, 0)) := hw5 ▸ blk_new _ _ _
  have hz5 : w4.heap.size < w5.heap.size := by rw [← hw5]; simp
  have z5 := hb45.size
  have hB5 := (hB3.out.trans (hb4.mono (by omega))).trans (hb45.mono (by omega))
  have hgp5 := blk_below hb45 (by omega) (blk_below hb4 (by omega) hgp.out)
  have hg5 := blk_below hb45 (by omega) (blk_below hb4 (by omega) hg3.out)
  have hch := blk_cell hgm
  clear hb4 hb45 hTc
  replace hgm := hide hgm
  replace hgp5 := hide hgp5
  replace hg5 := hide hg5
  replace hB5 := hide hB5
  obtain ⟨x1, hx1⟩ : ∃ x, cs[8]? = some x := ⟨_, Array.getElem?_eq_getElem (by omega)⟩
  have hcx1 := (blk_cell hgp5.out 8).trans hx1
  have hfx1 := blk_free hgp5.out 8
  obtain ⟨wq1, eq1, hq1, gq1⟩ := store_cell hgp5.out 8 (.int .i64 (s0 : Int))
  obtain ⟨cs1, hc1⟩ : ∃ x, cs.setIfInBounds 8 (.int .i64 (s0 : Int)) = x := ⟨_, rfl⟩
  rw [hc1] at hq1
  have hs1 : cs1.size = 23 := by rw [← hc1, Array.size_setIfInBounds, hcs]
  have ho1 : cs1.all (·.oneCell') = true := by rw [← hc1]; exact one_set hone.out _ rfl
  have zq1 := gq1.size
  have hm1 := grown_other gq1 (by omega) (by omega) hgm.out
  have hr1 := grown_other gq1 (by omega) (by omega) hg5.out
  have hB1q := hB5.out.trans (below_grown gq1 (by omega) (by omega))
  have hch1 := blk_cell hm1
  clear hx1 gq1
  replace hq1 := hide hq1
  replace hc1 := hide hc1
  replace ho1 := hide ho1
  replace hm1 := hide hm1
  replace hr1 := hide hr1
  replace hB1q := hide hB1q
  obtain ⟨x2, hx2⟩ : ∃ x, cs1[9]? = some x := ⟨_, Array.getElem?_eq_getElem (by omega)⟩
  have hcx2 := (blk_cell hq1.out 9).trans hx2
  have hfx2 := blk_free hq1.out 9
  obtain ⟨wq2, eq2, hq2, gq2⟩ := store_cell hq1.out 9 (.int .i64 (s2 : Int))
  obtain ⟨cs2, hc2⟩ : ∃ x, cs1.setIfInBounds 9 (.int .i64 (s2 : Int)) = x := ⟨_, rfl⟩
  rw [hc2] at hq2
  have hs2 : cs2.size = 23 := by rw [← hc2, Array.size_setIfInBounds, hs1]
  have ho2 : cs2.all (·.oneCell') = true := by rw [← hc2]; exact one_set ho1.out _ rfl
  have zq2 := gq2.size
  have hm2 := grown_other gq2 (by omega) (by omega) hm1.out
  have hr2 := grown_other gq2 (by omega) (by omega) hr1.out
  have hB2q := hB1q.out.trans (below_grown gq2 (by omega) (by omega))
  have hch2 := blk_cell hm2
  clear hx2 gq2
  replace hq2 := hide hq2
  replace hc2 := hide hc2
  replace ho2 := hide ho2
  replace hm2 := hide hm2
  replace hr2 := hide hr2
  replace hB2q := hide hB2q
  go_upto_region 26 with fail
  clear hcx1 hfx1 eq1 hch1
  clear hcx2 hfx2 eq2 hch2
  clear hw5 hch
  by_cases hK0 : K = 0
  case neg =>
    have t3 : ((K : Int) != 0) = true := by rw [bne_iff_ne]; omega
    go_upto_region 27 with fail
    apply wp_region_lit
    iterate 2 (refine wpList_plain rfl fun K hK => ?_; go_simp; refine hK _ _ ?_; clear hK K)
    refine wpl_st rfl 58 (.tmp 2) (.tmp 120) rfl w.heap.size 0 rfl pkZ rfl hr2.out (by rw [hzz, pkZ_size]; omega) size_pk pkZ_one fun w9 hg9 g9 => ?_
    rw [putA_whole _ _ (by rw [hzz, pkZ_size])] at hg9
    have hB9 := hB2q.out.trans (below_grown g9 (by have := hB2q.out.size; omega) (by omega))
    have hld : (loadVar 58 ⟨w.heap.size, 0, none⟩).run Try.prog w9 = .ok (.agg pkZ) w9 := by
      simpa using run_loadVar_mid w9 w.heap.size 0 58 pkZ.toList _ (blk_range hg9) Try.underlying58 rfl (by rw [size_pk, Array.length_toList, pkZ_size])
    have hfin := end_bad (y := y) (K : Nat) hK0 hB9
    clear g9
    replace hg9 := hide hg9
    replace hB9 := hide hB9
    replace hfin := hide hfin
    replace hld := hide hld
    iterate 1 (refine wpList_plain rfl fun K hK => ?_; go_simp; refine hK _ _ ?_; clear hK K)
    refine wpList_nil ?_
    go_wp2_with fail
    exact bodyPost_ret (v := .tuple #[.agg pkZ, .int .i64 ((K : Nat) : Int)]) (by simp [results, Try.results31, asAddr, hld.out, Result.andThen]) rfl hfin.out
  subst hK0
  have hy7 : y = cs2 := by
    have h9 := hy.out (by simp)
    unfold udpA at h9
    rw [hc1.out, hc2.out] at h9
    exact h9
  subst hy7
  go_upto_region 28 with fail
  apply wp_region_lit
  refine wpl_ld rfl 58 (.tmp 4) rfl w2.heap.size rfl y _ hq2.out Try.underlying58 rfl (by rw [size_pk, hs2]) ?_
  refine wpl_st rfl 58 (.tmp 2) (.tmp 122) rfl w.heap.size 0 rfl y rfl hr2.out (by rw [hzz, hs2]; omega) (by rw [size_pk, hs2]) ho2.out fun w9 hg9 g9 => ?_
  rw [putA_whole _ _ (by rw [hzz, hs2])] at hg9
  have hB9 := hB2q.out.trans (below_grown g9 (by have := hB2q.out.size; omega) (by omega))
  have hld : (loadVar 58 ⟨w.heap.size, 0, none⟩).run Try.prog w9 = .ok (.agg y) w9 := by
    simpa using run_loadVar_mid w9 w.heap.size 0 58 y.toList _ (blk_range hg9) Try.underlying58 rfl (by rw [size_pk, Array.length_toList, hs2])
  have hfin := end_good (y := y) hB9
  clear g9
  replace hg9 := hide hg9
  replace hB9 := hide hB9
  replace hfin := hide hfin
  replace hld := hide hld
  iterate 1 (refine wpList_plain rfl fun K hK => ?_; go_simp; refine hK _ _ ?_; clear hK K)
  refine wpList_nil ?_
  go_wp2_with fail
  exact bodyPost_ret (v := .tuple #[.agg y, .int .i64 0]) (by simp [results, Try.results31, asAddr, hld.out, Result.andThen]) rfl hfin.out
set_option maxRecDepth 20000 in
set_option maxHeartbeats 16000000 in
theorem law_none (n : Nat) (xs0 : List UInt8) (cs : Array Value) (hcs : cs.size = 23) (hone : cs.all (·.oneCell') = true) (v6 : Bool) (h0 : cs[0]? = some (.bool v6)) (pr : Int) (h1 : cs[1]? = some (.int .i64 pr)) (xs ps : List UInt8) (hO : OuterIs n xs0 0 cs xs ps) (A : Option Addr) (c : Nat) (w : World)
    (hx : IsB w w.heap.size A n xs0) (hnc : n ≤ c) (hcm : c ≤ maxLen) (hnm : xs.length ≤ 1099511627776) (hm : ps.length ≤ maxLen) (hp6 : pr ≠ 6) (hp17 : pr ≠ 17) (hpe : pr ≠ (if v6 = true then 58 else 1)) (y : Array Value) :
    Calls Try.prog 31 #[.slice A n c] w fun e w' => End2 14 y w w' e := by
  have t1 : (pr == 6) = false := by simpa using hp6
  have t2 : (pr == 17) = false := by simpa using hp17
  obtain ⟨n5, hn⟩ : ∃ n, xs.length = n := ⟨_, rfl⟩
  obtain ⟨pn, hpn⟩ : ∃ n, ps.length = n := ⟨_, rfl⟩
  obtain ⟨zs, hzs⟩ : ∃ zs, pkZ = zs := ⟨_, rfl⟩
  have hbz : Below w.heap.size w (w.alloc (.cells pkZ 58)) := (Below.refl _ _).alloc (Nat.le_refl _) _
  have hgz := blk_new w 58 pkZ
  obtain ⟨w1, hw1⟩ : ∃ w1, w.alloc (.cells pkZ 58) = w1 := ⟨_, rfl⟩
  have hz1 : w.heap.size < w1.heap.size := by rw [← hw1]; simp
  rw [hw1] at hbz hgz
  rw [hzs] at hgz
  unfold pkZ at hw1
  have hzz : zs.size = 23 := hzs ▸ pkZ_size
  have hOc := hO A c w1 (hx.on hbz) hnc hcm
  replace hx := hide hx
  replace hbz := hide hbz
  replace hgz := hide hgz
  replace hOc := hide hOc
  replace hO := hide hO
  replace hzs := hide hzs
  replace hone := hide hone
  replace h0 := hide h0
  replace h1 := hide h1
  replace hpe := hide hpe
  replace hp6 := hide hp6
  replace hp17 := hide hp17
  go_enter Try.func31, Try.ntmps31
  go_upto_region 1 with fail
  clear hw1
  apply wp_region_lit
  iterate 1 (refine wpList_plain rfl fun K hK => ?_; go_simp; refine hK _ _ ?_; clear hK K)
  refine wpList_plain rfl fun K hK => ?_
  go_simp
  refine (hOc.out).mono ?_
  rintro e w2 hE
  obtain ⟨z, r, p, rfl, hzs2, hzo, hgood, hb2⟩ := hE
  obtain ⟨hzc, A5, c5, P5, d5, rfl, rfl, hi2, hj2, hc5, hm5⟩ := hgood rfl
  replace hzc := hzc.symm
  subst hzc
  rw [hn] at hi2 hc5 ⊢
  rw [hpn] at hj2 ⊢
  have z2 := hb2.size
  have hB2 := hbz.out.trans (hb2.mono (by omega))
  have hg2 := blk_below hb2 (by omega) hgz.out
  clear hb2 hgood
  replace hzo := hide hzo
  replace hB2 := hide hB2
  replace hg2 := hide hg2
  replace hi2 := hide hi2
  replace hj2 := hide hj2
  go_simp
  refine hK _ _ ?_
  clear hK K
  iterate 5 (refine wpList_plain rfl fun K hK => ?_; go_simp; refine hK _ _ ?_; clear hK K)
  refine wpl_new rfl rfl 58 _ (alloc_pk _ rfl) 4 rfl (.tmp 21) rfl _ (fun _ => rfl) (fun _ => rfl) (by rw [pkZ_size]; exact hzs2) (by rw [size_pk, hzs2]) hzo.out ?_
  intro w3 hgp hb3 hz3
  have z3 := hb3.size
  have hB3 := hB2.out.trans (hb3.mono hB2.out.size)
  have hg3 := blk_below hb3 (by omega) hg2.out
  have hi3 := hi2.out.on hb3
  have hj3 := hj2.out.on hb3
  clear hi2 hj2
  have hcg0 := (blk_cell hgp 0).trans h0.out
  have hcg1 := (blk_cell hgp 1).trans h1.out
  clear hb3 hB2 hg2
  iterate 3 (refine wpList_plain rfl fun K hK => ?_; go_simp; refine hK _ _ ?_; clear hK K)
  refine wpList_nil ?_
  replace hgp := hide hgp
  replace hB3 := hide hB3
  replace hg3 := hide hg3
  replace hi3 := hide hi3
  replace hj3 := hide hj3
  go_upto_region 15 with fail
  go_cut [93] (fun bv wx => bv = .bool false ∧ w3 = wx)
  case first =>
    have hpv := hpe.out
    rcases v6 with _ | _
    · have t3 : (pr == 1) = false := by simpa using hpv
      by_cases h58 : pr = 58
      · subst h58
        go_wp2_with fail
        go_meet
        exact ⟨by first | rfl | trivial, rfl⟩
      · have t4 : (pr == 58) = false := by simpa using h58
        go_wp2_with fail
        go_meet
        exact ⟨by first | rfl | trivial, rfl⟩
    · have t3 : (pr == 58) = false := by simpa using hpv
      by_cases h58 : pr = 1
      · subst h58
        go_wp2_with fail
        go_meet
        exact ⟨by first | rfl | trivial, rfl⟩
      · have t4 : (pr == 1) = false := by simpa using h58
        go_wp2_with fail
        go_meet
        exact ⟨by first | rfl | trivial, rfl⟩
  case rest =>
  obtain ⟨rfl, rfl⟩ := hcut
  clear hcg0 hcg1
  go_upto_region 27 with fail
  apply wp_region_lit
  iterate 2 (refine wpList_plain rfl fun K hK => ?_; go_simp; refine hK _ _ ?_; clear hK K)
  refine wpl_st rfl 58 (.tmp 2) (.tmp 120) rfl w.heap.size 0 rfl pkZ rfl hg3.out (by rw [hzz, pkZ_size]; omega) size_pk pkZ_one fun w9 hg9 g9 => ?_
  rw [putA_whole _ _ (by rw [hzz, pkZ_size])] at hg9
  have hB9 := hB3.out.trans (below_grown g9 (by have := hB3.out.size; omega) (by omega))
  have hld : (loadVar 58 ⟨w.heap.size, 0, none⟩).run Try.prog w9 = .ok (.agg pkZ) w9 := by
    simpa using run_loadVar_mid w9 w.heap.size 0 58 pkZ.toList _ (blk_range hg9) Try.underlying58 rfl (by rw [size_pk, Array.length_toList, pkZ_size])
  have hfin := end_bad (y := y) (14 : Nat) (by omega) hB9
  clear g9
  replace hg9 := hide hg9
  replace hB9 := hide hB9
  replace hfin := hide hfin
  replace hld := hide hld
  iterate 1 (refine wpList_plain rfl fun K hK => ?_; go_simp; refine hK _ _ ?_; clear hK K)
  refine wpList_nil ?_
  go_wp2_with fail
  exact bodyPost_ret (v := .tuple #[.agg pkZ, .int .i64 ((14 : Nat) : Int)]) (by simp [results, Try.results31, asAddr, hld.out, Result.andThen]) rfl hfin.out
end Pkt
end Go.Proofs.Ytdmgbngdpjcliaa
/- Law 13's parse, by contract, for a message of an error. Conditions: what outer makes of the bytes. (Written by gen_pktlaw.py) -/
namespace Go.Proofs.Ytdmgbngdpjcliaa
open Go.RowKit Go.ChangeShapes Go.WideShapes Go.ChangeAt Go.Deep
namespace Pkt
set_option maxRecDepth 20000 in
set_option maxHeartbeats 16000000 in
theorem law_err (n : Nat) (xs0 : List UInt8) (cs : Array Value) (hcs : cs.size = 23) (hone : cs.all (·.oneCell') = true) (v6 : Bool) (h0 : cs[0]? = some (.bool v6)) (pr : Int) (h1 : cs[1]? = some (.int .i64 pr)) (xs ps : List UInt8) (hO : OuterIs n xs0 0 cs xs ps) (A : Option Addr) (c : Nat) (w : World)
    (hx : IsB w w.heap.size A n xs0) (hnc : n ≤ c) (hcm : c ≤ maxLen) (hnm : xs.length ≤ 1099511627776) (hm : ps.length ≤ maxLen) (hpe : pr = (if v6 = true then 58 else 1))
    (K1 : Nat) (ty cd wd : Int) (ds : List UInt8) (hP : Icmp.ParseIs xs (aheadP v6 ps) K1 ty cd wd ds) (K2 : Nat) (qr : Int) (sv : Bool) (sh sl : Int) (dv : Bool) (dh dl sp dp : Int) (hQ : Icmp.QuotedIs v6 ty ds K2 qr sv sh sl dv dh dl sp dp) :
    Calls Try.prog 31 #[.slice A n c] w fun e w' => End2 (if K1 ≠ 0 then K1 else K2) (errA cs (tuA qr dv dh dl sv sh sl dp sp)) w w' e := by
  have t1 : (pr == 6) = false := by rw [hpe, beq_eq_false_iff_ne]; split <;> omega
  have t2 : (pr == 17) = false := by rw [hpe, beq_eq_false_iff_ne]; split <;> omega
  obtain ⟨n5, hn⟩ : ∃ n, xs.length = n := ⟨_, rfl⟩
  obtain ⟨pn, hpn⟩ : ∃ n, ps.length = n := ⟨_, rfl⟩
  obtain ⟨dn, hdn⟩ : ∃ n, ds.length = n := ⟨_, rfl⟩
  obtain ⟨y, hy⟩ : ∃ y, errA cs (tuA qr dv dh dl sv sh sl dp sp) = y := ⟨_, rfl⟩
  obtain ⟨Kq, hKq⟩ : ∃ Kq, (if K1 ≠ 0 then K1 else K2) = Kq := ⟨_, rfl⟩
  rw [hKq, hy]
  obtain ⟨zs, hzs⟩ : ∃ zs, pkZ = zs := ⟨_, rfl⟩
  have hbz : Below w.heap.size w (w.alloc (.cells pkZ 58)) := (Below.refl _ _).alloc (Nat.le_refl _) _
  have hgz := blk_new w 58 pkZ
  obtain ⟨w1, hw1⟩ : ∃ w1, w.alloc (.cells pkZ 58) = w1 := ⟨_, rfl⟩
  have hz1 : w.heap.size < w1.heap.size := by rw [← hw1]; simp
  rw [hw1] at hbz hgz
  rw [hzs] at hgz
  unfold pkZ at hw1
  have hzz : zs.size = 23 := hzs ▸ pkZ_size
  have hOc := hO A c w1 (hx.on hbz) hnc hcm
  replace hx := hide hx
  replace hbz := hide hbz
  replace hgz := hide hgz
  replace hOc := hide hOc
  replace hO := hide hO
  replace hzs := hide hzs
  replace hone := hide hone
  replace h0 := hide h0
  replace h1 := hide h1
  replace hpe := hide hpe
  replace hP := hide hP
  replace hQ := hide hQ
  replace hy := hide hy
  replace hKq := hide hKq
  go_enter Try.func31, Try.ntmps31
  go_upto_region 1 with fail
  clear hw1
  apply wp_region_lit
  iterate 1 (refine wpList_plain rfl fun K hK => ?_; go_simp; refine hK _ _ ?_; clear hK K)
  refine wpList_plain rfl fun K hK => ?_
  go_simp
  refine (hOc.out).mono ?_
  rintro e w2 hE
  obtain ⟨z, r, p, rfl, hzs2, hzo, hgood, hb2⟩ := hE
  obtain ⟨hzc, A5, c5, P5, d5, rfl, rfl, hi2, hj2, hc5, hm5⟩ := hgood rfl
  replace hzc := hzc.symm
  subst hzc
  rw [hn] at hi2 hc5 ⊢
  rw [hpn] at hj2 ⊢
  have z2 := hb2.size
  have hB2 := hbz.out.trans (hb2.mono (by omega))
  have hg2 := blk_below hb2 (by omega) hgz.out
  clear hb2 hgood
  replace hzo := hide hzo
  replace hB2 := hide hB2
  replace hg2 := hide hg2
  replace hi2 := hide hi2
  replace hj2 := hide hj2
  go_simp
  refine hK _ _ ?_
  clear hK K
  iterate 5 (refine wpList_plain rfl fun K hK => ?_; go_simp; refine hK _ _ ?_; clear hK K)
  refine wpl_new rfl rfl 58 _ (alloc_pk _ rfl) 4 rfl (.tmp 21) rfl _ (fun _ => rfl) (fun _ => rfl) (by rw [pkZ_size]; exact hzs2) (by rw [size_pk, hzs2]) hzo.out ?_
  intro w3 hgp hb3 hz3
  have z3 := hb3.size
  have hB3 := hB2.out.trans (hb3.mono hB2.out.size)
  have hg3 := blk_below hb3 (by omega) hg2.out
  have hi3 := hi2.out.on hb3
  have hj3 := hj2.out.on hb3
  clear hi2 hj2
  have hcg0 := (blk_cell hgp 0).trans h0.out
  have hcg1 := (blk_cell hgp 1).trans h1.out
  clear hb3 hB2 hg2
  iterate 3 (refine wpList_plain rfl fun K hK => ?_; go_simp; refine hK _ _ ?_; clear hK K)
  refine wpList_nil ?_
  replace hgp := hide hgp
  replace hB3 := hide hB3
  replace hg3 := hide hg3
  replace hi3 := hide hi3
  replace hj3 := hide hj3
  go_upto_region 15 with fail
  go_cut [93] (fun bv wx => bv = .bool true ∧ w3 = wx)
  case first =>
    have hpv := hpe.out
    rcases v6 with _ | _
    · obtain rfl : pr = 1 := hpv
      go_wp2_with fail
      go_meet
      exact ⟨by first | rfl | trivial, rfl⟩
    · obtain rfl : pr = 58 := hpv
      go_wp2_with fail
      go_meet
      exact ⟨by first | rfl | trivial, rfl⟩
  case rest =>
  obtain ⟨rfl, rfl⟩ := hcut
  obtain ⟨ps', hps'⟩ : ∃ ps', aheadP v6 ps = ps' := ⟨_, rfl⟩
  rw [hps'] at hP
  obtain ⟨P', d', hp', hv1, hv0⟩ : ∃ P' d', IsB w3 w3.heap.size P' ps'.length ps' ∧ (v6 = true → P' = P5 ∧ d' = d5 ∧ ps'.length = pn) ∧ (v6 = false → P' = none ∧ d' = 0 ∧ ps'.length = 0) := by
    subst hps'
    unfold aheadP
    rcases v6 with _ | _
    · exact ⟨none, 0, IsB.nil _ _ _, (fun h => by cases h), fun _ => ⟨rfl, rfl, rfl⟩⟩
    · exact ⟨P5, d5, by rw [if_pos rfl, hpn]; exact hj3.out, (fun _ => ⟨rfl, rfl, hpn⟩), fun h => by cases h⟩
  have hPc := hP.out A5 P' c5 d' w3 (by rw [hn]; exact hi3.out) hp' (by omega) hm5
  rw [hn, hdn] at hPc
  replace hPc := hide hPc
  replace hp' := hide hp'
  replace hps' := hide hps'
  go_upto_if 96 with fail
  go_cut [6] (fun pv wx => pv = .slice P' ps'.length d' ∧ w3 = wx)
  case first =>
    rcases v6 with _ | _
    · obtain ⟨rfl, rfl, h3⟩ := hv0 rfl
      clear hv0 hv1
      go_wp2_with fail
      go_meet
      exact ⟨by rw [h3], rfl⟩
    · obtain ⟨rfl, rfl, h3⟩ := hv1 rfl
      clear hv0 hv1
      go_wp2_with fail
      go_meet
      exact ⟨by rw [h3], rfl⟩
  case rest =>
  obtain ⟨rfl, rfl⟩ := hcut
  clear hv0 hv1 hcg0 hcg1
  go_wp2_with fail
  refine hPc.out.mono ?_
  rintro e w4 ⟨A3, c3, rfl, hi4, hc4, hm4, hb4⟩
  obtain ⟨w5, hw5⟩ : ∃ w5, w4.alloc (.cells #[.int .i64 ty, .int .i64 cd, .int .u32 wd, .slice A3 dn c3] 100) = w5 := ⟨_, rfl⟩
  have z4 := hb4.size
  have hb45 : Below w4.heap.size w4 w5 := hw5 ▸ (Below.refl _ _).alloc (Nat.le_refl _) _
  have hgm : w5.heap[w4.heap.size]? = some (.cells #[.int .i64 ty, .int .i64 cd, .int .u32 wd, .slice A3 dn c3] 100 (0, 0)) := hw5 ▸ blk_new _ _ _
  have hz5 : w4.heap.size < w5.heap.size := by rw [← hw5]; simp
  have z5 := hb45.size
  have hB5 := (hB3.out.trans (hb4.mono (by omega))).trans (hb45.mono (by omega))
  have hgp5 := blk_below hb45 (by omega) (blk_below hb4 (by omega) hgp.out)
  have hg5 := blk_below hb45 (by omega) (blk_below hb4 (by omega) hg3.out)
  have hi5 := hi4.on hb45
  have hch := blk_cell hgm
  clear hb4 hb45 hi4 hPc
  by_cases hK1 : K1 = 0
  case neg =>
    obtain rfl : K1 = Kq := by rw [← hKq.out, if_pos hK1]
    have t3 : ((K1 : Int) == 0) = false := by rw [beq_eq_false_iff_ne]; omega
    have t4 : ((K1 : Int) != 0) = true := by rw [bne_iff_ne]; omega
    replace hgm := hide hgm
    replace hgp5 := hide hgp5
    replace hg5 := hide hg5
    replace hB5 := hide hB5
    replace hi5 := hide hi5
    go_upto_region 27 with fail
    apply wp_region_lit
    iterate 2 (refine wpList_plain rfl fun K hK => ?_; go_simp; refine hK _ _ ?_; clear hK K)
    refine wpl_st rfl 58 (.tmp 2) (.tmp 120) rfl w.heap.size 0 rfl pkZ rfl hg5.out (by rw [hzz, pkZ_size]; omega) size_pk pkZ_one fun w9 hg9 g9 => ?_
    rw [putA_whole _ _ (by rw [hzz, pkZ_size])] at hg9
    have hB9 := hB5.out.trans (below_grown g9 (by have := hB5.out.size; omega) (by omega))
    have hld : (loadVar 58 ⟨w.heap.size, 0, none⟩).run Try.prog w9 = .ok (.agg pkZ) w9 := by
      simpa using run_loadVar_mid w9 w.heap.size 0 58 pkZ.toList _ (blk_range hg9) Try.underlying58 rfl (by rw [size_pk, Array.length_toList, pkZ_size])
    have hfin := end_bad (y := y) (K1 : Nat) hK1 hB9
    clear g9
    replace hg9 := hide hg9
    replace hB9 := hide hB9
    replace hfin := hide hfin
    replace hld := hide hld
    iterate 1 (refine wpList_plain rfl fun K hK => ?_; go_simp; refine hK _ _ ?_; clear hK K)
    refine wpList_nil ?_
    go_wp2_with fail
    exact bodyPost_ret (v := .tuple #[.agg pkZ, .int .i64 ((K1 : Nat) : Int)]) (by simp [results, Try.results31, asAddr, hld.out, Result.andThen]) rfl hfin.out
  subst hK1
  have hKv := hKq.out
  rw [if_neg (by omega)] at hKv
  subst hKv
  have hcg5 := (blk_cell hgp5 0).trans h0.out
  have hQc := hQ.out cd wd A3 c3 w5 (by rw [hdn]; exact hi5) (by omega) hm4
  rw [hdn] at hQc
  replace hgm := hide hgm
  replace hgp5 := hide hgp5
  replace hg5 := hide hg5
  replace hB5 := hide hB5
  replace hi5 := hide hi5
  replace hQc := hide hQc
  go_wp2_with fail
  refine hQc.out.mono ?_
  rintro e w6 ⟨rfl, hb6⟩
  clear hw5 hch hcg5
  obtain ⟨w7, hw7⟩ : ∃ w7, w6.alloc (.cells #[.int .i64 qr, .bool sv, .int .u64 sh, .int .u64 sl, .bool dv, .int .u64 dh, .int .u64 dl, .int .i64 sp, .int .i64 dp] 56) = w7 := ⟨_, rfl⟩
  have z6 := hb6.size
  have hb67 : Below w6.heap.size w6 w7 := hw7 ▸ (Below.refl _ _).alloc (Nat.le_refl _) _
  have hgt : w7.heap[w6.heap.size]? = some (.cells #[.int .i64 qr, .bool sv, .int .u64 sh, .int .u64 sl, .bool dv, .int .u64 dh, .int .u64 dl, .int .i64 sp, .int .i64 dp] 56 (0, 0)) := hw7 ▸ blk_new _ _ _
  have hz7 : w6.heap.size < w7.heap.size := by rw [← hw7]; simp
  have z7 := hb67.size
  have hB7 := (hB5.out.trans (hb6.mono (by omega))).trans (hb67.mono (by omega))
  have hgp7 := blk_below hb67 (by omega) (blk_below hb6 (by omega) hgp5.out)
  have hg7 := blk_below hb67 (by omega) (blk_below hb6 (by omega) hg5.out)
  clear hb6 hb67 hQc
  replace hgt := hide hgt
  replace hgp7 := hide hgp7
  replace hg7 := hide hg7
  replace hB7 := hide hB7
  obtain ⟨x1, hx1⟩ : ∃ x, cs[12]? = some x := ⟨_, Array.getElem?_eq_getElem (by omega)⟩
  have hcx1 := (blk_cell hgp7.out 12).trans hx1
  have hfx1 := blk_free hgp7.out 12
  obtain ⟨wq1, eq1, hq1, gq1⟩ := store_cell hgp7.out 12 (.bool true)
  obtain ⟨cs1, hc1⟩ : ∃ x, cs.setIfInBounds 12 (.bool true) = x := ⟨_, rfl⟩
  rw [hc1] at hq1
  have hs1 : cs1.size = 23 := by rw [← hc1, Array.size_setIfInBounds, hcs]
  have ho1 : cs1.all (·.oneCell') = true := by rw [← hc1]; exact one_set hone.out _ rfl
  have zq1 := gq1.size
  have hm1 := grown_other gq1 (by omega) (by omega) hgt.out
  have hr1 := grown_other gq1 (by omega) (by omega) hg7.out
  have hB1q := hB7.out.trans (below_grown gq1 (by omega) (by omega))
  have hch1 := blk_cell hm1
  clear hx1 gq1
  replace hq1 := hide hq1
  replace hc1 := hide hc1
  replace ho1 := hide ho1
  replace hm1 := hide hm1
  replace hr1 := hide hr1
  replace hB1q := hide hB1q
  go_upto_region 23 with fail
  clear hcx1 hfx1 eq1 hw7
  apply wp_region_lit
  iterate 1 (refine wpList_plain rfl fun K hK => ?_; go_simp; refine hK _ _ ?_; clear hK K)
  refine wpList_plain rfl fun K hK => ?_
  go_simp
  refine (Icmp.back_of qr sp dp sv dv sh sl dh dl wq1).mono ?_
  rintro e w8 ⟨rfl, hb8⟩
  have z8 := hb8.size
  have hq8 := blk_below hb8 (by omega) hq1.out
  have hr8 := blk_below hb8 (by omega) hr1.out
  have hB8 := hB1q.out.trans (hb8.mono (by omega))
  clear hb8 hch1
  replace hq8 := hide hq8
  replace hr8 := hide hr8
  replace hB8 := hide hB8
  go_simp
  refine hK _ _ ?_
  clear hK K
  iterate 1 (refine wpList_plain rfl fun K hK => ?_; go_simp; refine hK _ _ ?_; clear hK K)
  refine wpl_st rfl 56 (.tmp 116) (.tmp 115) rfl w2.heap.size 13 rfl (tuA qr dv dh dl sv sh sl dp sp) rfl hq8.out (by rw [hs1]; exact (show 13 + 9 ≤ 23 by omega)) size_tu (tuA_one _ _ _ _ _ _ _ _ _) fun wa hga ga => ?_
  have za := ga.size
  have hra := grown_other ga (by omega) (by omega) hr8.out
  have hBa := hB8.out.trans (below_grown ga (by omega) (by omega))
  have hya : putA cs1 13 (tuA qr dv dh dl sv sh sl dp sp).toList = y := by rw [← hy.out, ← hc1.out]; rfl
  rw [hya] at hga
  have hys : y.size = 23 := by rw [← hya, putA_size _ _ _ (by rw [hs1]; exact (show 13 + 9 ≤ 23 by omega)), hs1]
  have hyo : y.all (·.oneCell') = true := by
    rw [← hya]
    exact all_put ho1.out (by simpa using tuA_one qr dv dh dl sv sh sl dp sp)
  clear ga hya
  replace hga := hide hga
  replace hra := hide hra
  replace hBa := hide hBa
  replace hyo := hide hyo
  refine wpList_nil ?_
  by_cases hK2 : K2 = 0
  case neg =>
    have t4 : ((K2 : Int) != 0) = true := by rw [bne_iff_ne]; omega
    go_upto_region 27 with fail
    apply wp_region_lit
    iterate 2 (refine wpList_plain rfl fun K hK => ?_; go_simp; refine hK _ _ ?_; clear hK K)
    refine wpl_st rfl 58 (.tmp 2) (.tmp 120) rfl w.heap.size 0 rfl pkZ rfl hra.out (by rw [hzz, pkZ_size]; omega) size_pk pkZ_one fun w9 hg9 g9 => ?_
    rw [putA_whole _ _ (by rw [hzz, pkZ_size])] at hg9
    have hB9 := hBa.out.trans (below_grown g9 (by have := hBa.out.size; omega) (by omega))
    have hld : (loadVar 58 ⟨w.heap.size, 0, none⟩).run Try.prog w9 = .ok (.agg pkZ) w9 := by
      simpa using run_loadVar_mid w9 w.heap.size 0 58 pkZ.toList _ (blk_range hg9) Try.underlying58 rfl (by rw [size_pk, Array.length_toList, pkZ_size])
    have hfin := end_bad (y := y) (K2 : Nat) hK2 hB9
    clear g9
    replace hg9 := hide hg9
    replace hB9 := hide hB9
    replace hfin := hide hfin
    replace hld := hide hld
    iterate 1 (refine wpList_plain rfl fun K hK => ?_; go_simp; refine hK _ _ ?_; clear hK K)
    refine wpList_nil ?_
    go_wp2_with fail
    exact bodyPost_ret (v := .tuple #[.agg pkZ, .int .i64 ((K2 : Nat) : Int)]) (by simp [results, Try.results31, asAddr, hld.out, Result.andThen]) rfl hfin.out
  subst hK2
  go_upto_region 28 with fail
  apply wp_region_lit
  refine wpl_ld rfl 58 (.tmp 4) rfl w2.heap.size rfl y _ hga.out Try.underlying58 rfl (by rw [size_pk, hys]) ?_
  refine wpl_st rfl 58 (.tmp 2) (.tmp 122) rfl w.heap.size 0 rfl y rfl hra.out (by rw [hzz, hys]; omega) (by rw [size_pk, hys]) hyo.out fun w9 hg9 g9 => ?_
  rw [putA_whole _ _ (by rw [hzz, hys])] at hg9
  have hB9 := hBa.out.trans (below_grown g9 (by have := hBa.out.size; omega) (by omega))
  have hld : (loadVar 58 ⟨w.heap.size, 0, none⟩).run Try.prog w9 = .ok (.agg y) w9 := by
    simpa using run_loadVar_mid w9 w.heap.size 0 58 y.toList _ (blk_range hg9) Try.underlying58 rfl (by rw [size_pk, Array.length_toList, hys])
  have hfin := end_good (y := y) hB9
  clear g9
  replace hg9 := hide hg9
  replace hB9 := hide hB9
  replace hfin := hide hfin
  replace hld := hide hld
  iterate 1 (refine wpList_plain rfl fun K hK => ?_; go_simp; refine hK _ _ ?_; clear hK K)
  refine wpList_nil ?_
  go_wp2_with fail
  exact bodyPost_ret (v := .tuple #[.agg y, .int .i64 0]) (by simp [results, Try.results31, asAddr, hld.out, Result.andThen]) rfl hfin.out
end Pkt
end Go.Proofs.Ytdmgbngdpjcliaa
/- What pkt.Parse and law 13's parse make of bytes is the same. Conditions: a slice of bytes that reads as a list, at most 9000 bytes. -/
namespace Go.Proofs.Ytdmgbngdpjcliaa
open Go.RowKit Go.ChangeShapes Go.WideShapes Go.ChangeAt Go.Deep
namespace Pkt
/-- A packet's cells, whatever they are. -/
def IsG (y : Array Value) : Prop := ∃ (v6 : Bool) (pr : Int) (sv : Bool) (shi slo : Int) (dv : Bool) (dhi dlo sp dp ttl : Int) (fl : Nat) (er : Bool) (apr : Int) (asv : Bool) (ashi aslo : Int) (adv : Bool) (adhi adlo asp adp sz : Int), fl ≤ 255 ∧ y = pkG v6 pr sv shi slo dv dhi dlo sp dp ttl fl er apr asv ashi aslo adv adhi adlo asp adp sz
/-- What the law's parse makes of bytes of which outer makes this. -/
def LawIs (cs : Array Value) (xs ps : List UInt8) (K : Nat) (y : Array Value) : Prop :=
  ∀ (n : Nat) (xs0 : List UInt8), OuterIs n xs0 0 cs xs ps → ∀ (A : Option Addr) (c : Nat) (w : World), IsB w w.heap.size A n xs0 → n ≤ c → c ≤ maxLen → Calls Try.prog 31 #[.slice A n c] w fun e w' => End2 K y w w' e
/-- What comes of a packet without what is behind its header. -/
def FromA (cs y : Array Value) : Prop := (∃ s d f : Nat, f ≤ 255 ∧ y = tcpA cs s d f) ∨ (∃ s d : Nat, y = udpA cs s d) ∨ ∃ (qr : Int) (sv : Bool) (sh sl : Int) (dv : Bool) (dh dl sp dp : Int), y = errA cs (tuA qr sv sh sl dv dh dl sp dp)
theorem FromA.size {cs y : Array Value} (h : FromA cs y) (hcs : cs.size = 23) : y.size = 23 := by
  rcases h with ⟨s, d, f, _, rfl⟩ | ⟨s, d, rfl⟩ | ⟨qr, sv, sh, sl, dv, dh, dl, sp, dp, rfl⟩
  · unfold tcpA; simp [hcs]
  · unfold udpA; simp [hcs]
  · unfold errA
    rw [putA_size _ _ _ (by rw [Array.size_setIfInBounds, hcs]; exact (show 13 + 9 ≤ 23 by omega)), Array.size_setIfInBounds, hcs]
theorem FromA.one {cs y : Array Value} (h : FromA cs y) (hone : cs.all (·.oneCell') = true) : y.all (·.oneCell') = true := by
  rcases h with ⟨s, d, f, _, rfl⟩ | ⟨s, d, rfl⟩ | ⟨qr, sv, sh, sl, dv, dh, dl, sp, dp, rfl⟩
  · exact one_set (one_set (one_set hone _ rfl) _ rfl) _ rfl
  · exact one_set (one_set hone _ rfl) _ rfl
  · unfold errA
    exact all_put (one_set hone _ rfl) (by simpa using tuA_one qr sv sh sl dv dh dl sp dp)
theorem FromA.four {proto slo dlo ttl sz : Nat} {y : Array Value} (h : FromA (p4A proto slo dlo ttl sz) y) : IsG y := by
  rcases h with ⟨s, d, f, hf, rfl⟩ | ⟨s, d, rfl⟩ | ⟨qr, sv, sh, sl, dv, dh, dl, sp, dp, rfl⟩
  · exact ⟨false, proto, false, 0, slo, false, 0, dlo, s, d, ttl, f, false, 0, false, 0, 0, false, 0, 0, 0, 0, sz, hf, rfl⟩
  · exact ⟨false, proto, false, 0, slo, false, 0, dlo, s, d, ttl, 0, false, 0, false, 0, 0, false, 0, 0, 0, 0, sz, by omega, rfl⟩
  · exact ⟨false, proto, false, 0, slo, false, 0, dlo, 0, 0, ttl, 0, true, qr, sv, sh, sl, dv, dh, dl, sp, dp, sz, by omega, rfl⟩
theorem FromA.six {proto shi slo dhi dlo ttl sz : Nat} {y : Array Value} (h : FromA (p6A proto shi slo dhi dlo ttl sz) y) : IsG y := by
  rcases h with ⟨s, d, f, hf, rfl⟩ | ⟨s, d, rfl⟩ | ⟨qr, sv, sh, sl, dv, dh, dl, sp, dp, rfl⟩
  · exact ⟨true, proto, true, shi, slo, true, dhi, dlo, s, d, ttl, f, false, 0, false, 0, 0, false, 0, 0, 0, 0, sz, hf, rfl⟩
  · exact ⟨true, proto, true, shi, slo, true, dhi, dlo, s, d, ttl, 0, false, 0, false, 0, 0, false, 0, 0, 0, 0, sz, by omega, rfl⟩
  · exact ⟨true, proto, true, shi, slo, true, dhi, dlo, 0, 0, ttl, 0, true, qr, sv, sh, sl, dv, dh, dl, sp, dp, sz, by omega, rfl⟩
theorem parseF_le (K : Nat) (xs : List UInt8) : Tcp.parseF K xs ≤ 255 := by
  unfold Tcp.parseF
  split
  · have := (xs.getD 13 0).toNat_lt
    omega
  · omega
theorem upper_both (cs : Array Value) (hcs : cs.size = 23) (hone : cs.all (·.oneCell') = true) (v6 : Bool) (h0 : cs[0]? = some (.bool v6)) (pr : Int) (h1 : cs[1]? = some (.int .i64 pr)) (xs ps : List UInt8) (hnm : xs.length ≤ 1099511627776) (hm : ps.length ≤ maxLen) :
    ∃ K y, (K = 0 → FromA cs y) ∧ UpIs cs (if v6 = true then 58 else 1) xs ps K y ∧ LawIs cs xs ps K y := by
  by_cases h6 : pr = 6
  · exact ⟨_, tcpA cs (Tcp.parseS (Tcp.parseK ps xs) xs 0) (Tcp.parseS (Tcp.parseK ps xs) xs 2) (Tcp.parseF (Tcp.parseK ps xs) xs), fun _ => .inl ⟨_, _, _, parseF_le _ _, rfl⟩,
      fun A P c d w hx hp hc hcm => upper_tcp cs hcs hone v6 h0 pr h1 _ A P c d xs ps w hx hp hc hcm hnm hm h6 _ rfl _ (fun _ => rfl),
      fun n xs0 hO A c w hx hc hcm => law_tcp n xs0 cs hcs hone v6 h0 pr h1 xs ps hO A c w hx hc hcm hnm hm h6 _ rfl _ (fun _ => rfl)⟩
  by_cases h17 : pr = 17
  · exact ⟨_, udpA cs (Udp.parseS (Udp.parseK (!v6) ps xs) xs 0) (Udp.parseS (Udp.parseK (!v6) ps xs) xs 2), fun _ => .inr (.inl ⟨_, _, rfl⟩),
      fun A P c d w hx hp hc hcm => upper_udp cs hcs hone v6 h0 pr h1 _ A P c d xs ps w hx hp hc hcm hnm hm h17 _ rfl _ (fun _ => rfl),
      fun n xs0 hO A c w hx hc hcm => law_udp n xs0 cs hcs hone v6 h0 pr h1 xs ps hO A c w hx hc hcm hnm hm h17 _ rfl _ (fun _ => rfl)⟩
  by_cases he : pr = (if v6 = true then 58 else 1)
  · have ha : (aheadP v6 ps).length ≤ maxLen := by
      unfold aheadP
      split
      · exact hm
      · simp [maxLen]
    obtain ⟨K1, ty, cd, wd, ds, _, hds, hP⟩ := Icmp.parse_is xs (aheadP v6 ps) hnm ha
    obtain ⟨K2, qr, sv, sh, sl, dv, dh, dl, sp, dp, hQ⟩ := Icmp.quoted_is v6 ty ds (by omega)
    exact ⟨_, errA cs (tuA qr dv dh dl sv sh sl dp sp), fun _ => .inr (.inr ⟨_, _, _, _, _, _, _, _, _, rfl⟩),
      fun A P c d w hx hp hc hcm => upper_err cs hcs hone v6 h0 pr h1 _ A P c d xs ps w hx hp hc hcm hnm hm h6 h17 he K1 ty cd wd ds hP K2 qr sv sh sl dv dh dl sp dp hQ,
      fun n xs0 hO A c w hx hc hcm => law_err n xs0 cs hcs hone v6 h0 pr h1 xs ps hO A c w hx hc hcm hnm hm he K1 ty cd wd ds hP K2 qr sv sh sl dv dh dl sp dp hQ⟩
  · exact ⟨14, #[], fun h => absurd h (by omega), fun A P c d w hx hp hc hcm => upper_none cs hcs hone v6 h0 pr h1 _ A P c d xs ps w hx hp hc hcm hnm hm h6 h17 he #[],
      fun n xs0 hO A c w hx hc hcm => law_none n xs0 cs hcs hone v6 h0 pr h1 xs ps hO A c w hx hc hcm hnm hm h6 h17 he #[]⟩
/-- What both make of bytes. -/
def BothIs (n : Nat) (xs : List UInt8) (K : Nat) (y : Array Value) : Prop :=
  (K = 0 → y.size = 23 ∧ y.all (·.oneCell') = true ∧ IsG y) ∧
  (∀ (A : Option Addr) (c : Nat) (w : World), IsB w w.heap.size A n xs → n ≤ c → c ≤ maxLen → Calls Try.prog 29 #[.slice A n c] w fun e w' => End2 K y w w' e) ∧
  ∀ (A : Option Addr) (c : Nat) (w : World), IsB w w.heap.size A n xs → n ≤ c → c ≤ maxLen → Calls Try.prog 31 #[.slice A n c] w fun e w' => End2 K y w w' e
theorem four_both (n : Nat) (xs : List UInt8) (hn0 : n ≠ 0) (hn : n ≤ 9000) (h4 : (xs.getD 0 0).toNat / 16 = 4) (A : Option Addr) (c : Nat) (w : World) (hx : IsB w w.heap.size A n xs) (hc : n ≤ c) (hcm : c ≤ maxLen) : ∃ K y, BothIs n xs K y := by
  rcases Tun.four_is n xs hx.1 (by omega) with ⟨K, hK, _, hF⟩ | ⟨tos, id, df, mf, frag, ttl, proto, slo, dlo, n1, m1, rest, hl, hn1, _, hpr, _, hsl, hdl, hF⟩
  · have hO : OuterIs n xs K (p4A 0 0 0 0 (20 + 0 + 0)) [] (ps4 0 0 0 0) := fun A c w hx hc hcm => outer_four n xs hn0 h4 K 0 0 false false 0 0 0 0 0 0 0 [] hF (by omega) (by omega) (by omega) (by omega) K (by rw [if_neg (fun h => hK h.1)]) A c w hx hc hcm
    exact ⟨K, #[], fun h => absurd h hK, fun A c w hx hc hcm => Parse_four n xs (by omega) (by omega) h4 K #[] (fun h => absurd h hK) (fun A c w hx hc hcm => parse4_bad n xs K hK hF #[] A c w hx hc hcm) A c w hx hc hcm,
      fun A c w hx hc hcm => law_bad n xs K hK _ _ _ hO #[] A c w hx hc hcm⟩
  have hr := rest4 hF hx hc hcm
  by_cases hf : 0 < frag ∨ mf = true
  · have hO : OuterIs n xs 21 (p4A proto slo dlo ttl (20 + n1 + m1)) rest (ps4 slo dlo proto m1) := fun A c w hx hc hcm => outer_four n xs hn0 h4 0 tos id df mf frag ttl proto slo dlo n1 m1 rest hF (by omega) hpr hsl hdl 21 (by rw [if_pos ⟨rfl, hf⟩]) A c w hx hc hcm
    exact ⟨21, #[], fun h => absurd h (by omega), fun A c w hx hc hcm => Parse_four n xs (by omega) (by omega) h4 21 #[] (fun h => absurd h (by omega)) (fun A c w hx hc hcm => parse4_frag n xs tos id df mf frag ttl proto slo dlo n1 m1 rest hF hf #[] A c w hx hc hcm) A c w hx hc hcm,
      fun A c w hx hc hcm => law_bad n xs 21 (by omega) _ _ _ hO #[] A c w hx hc hcm⟩
  obtain rfl : frag = 0 := by omega
  obtain rfl : mf = false := by cases mf with | false => rfl | true => exact absurd (.inr rfl) hf
  obtain ⟨K, y, hy, hU, hL⟩ := upper_both (p4A proto slo dlo ttl (20 + n1 + m1)) rfl (p4A_one _ _ _ _ _) false rfl (proto : Int) rfl rest (ps4 slo dlo proto m1) (by omega) (by unfold ps4 maxLen; simp [beB_length])
  have hys : K = 0 → y.size = 23 ∧ y.all (·.oneCell') = true := fun h => ⟨(hy h).size rfl, (hy h).one (p4A_one _ _ _ _ _)⟩
  have hO : OuterIs n xs 0 (p4A proto slo dlo ttl (20 + n1 + m1)) rest (ps4 slo dlo proto m1) := fun A c w hx hc hcm => outer_four n xs hn0 h4 0 tos id df false 0 ttl proto slo dlo n1 m1 rest hF (by omega) hpr hsl hdl 0 (by rw [if_neg (fun h => hf h.2)]) A c w hx hc hcm
  exact ⟨K, y, fun h => ⟨(hys h).1, (hys h).2, (hy h).four⟩, fun A c w hx hc hcm => Parse_four n xs (by omega) (by omega) h4 K y hys (fun A c w hx hc hcm => parse4_ok n xs tos id df ttl proto slo dlo n1 m1 rest hF (by omega) hpr hsl hdl hr K y hU hys A c w hx hc hcm) A c w hx hc hcm,
    fun A c w hx hc hcm => hL n xs hO A c w hx hc hcm⟩
theorem six_both (n : Nat) (xs : List UInt8) (hn0 : n ≠ 0) (hn : n ≤ 9000) (h6 : (xs.getD 0 0).toNat / 16 = 6) (A : Option Addr) (c : Nat) (w : World) (hx : IsB w w.heap.size A n xs) (hc : n ≤ c) (hcm : c ≤ maxLen) : ∃ K y, BothIs n xs K y := by
  rcases Tun.six_is n xs hx.1 (by omega) with ⟨K, hK, _, hF⟩ | ⟨cl, la, ho, sh, sl, dh, dl, acc, nx, m1, rest, _, hpr, hac, hal, hl, hsh, hsl, hdh, hdl, hF⟩
  · have hO : OuterIs n xs K (p6O false 0 0 0 0 0 0 (40 + Six.sumP [] + 0)) [] (Six.pseudoB 0 0 0 0 0 0) := fun A c w hx hc hcm => outer_six n xs hn0 h6 K false 0 0 0 0 0 0 0 [] 0 0 [] hF (by simp) (by simp) (by omega) (by omega) (by omega) (by omega) (by omega) (by omega) _ rfl K (by rw [if_neg (fun h => hK h.1)]) A c w hx hc hcm
    exact ⟨K, #[], fun h => absurd h hK, fun A c w hx hc hcm => Parse_six n xs (by omega) (by omega) h6 K #[] (fun h => absurd h hK) (fun A c w hx hc hcm => parse6_bad n xs K hK hF #[] A c w hx hc hcm) A c w hx hc hcm,
      fun A c w hx hc hcm => law_bad n xs K hK _ _ _ hO #[] A c w hx hc hcm⟩
  have hr := rest6 hF hx hc hcm
  by_cases hf : 0 < Six.fragP acc ∨ Six.moreP acc = true
  · have hO : OuterIs n xs 21 (p6O true nx sh sl dh dl ho (40 + Six.sumP acc + m1)) rest (Six.pseudoB sh sl dh dl m1 nx) := fun A c w hx hc hcm => outer_six n xs hn0 h6 0 true cl la ho sh sl dh dl acc nx m1 rest hF hac hal (by omega) hpr hsh hsl hdh hdl _ rfl 21 (by rw [if_pos ⟨rfl, hf⟩]) A c w hx hc hcm
    exact ⟨21, #[], fun h => absurd h (by omega), fun A c w hx hc hcm => Parse_six n xs (by omega) (by omega) h6 21 #[] (fun h => absurd h (by omega)) (fun A c w hx hc hcm => parse6_frag n xs cl la ho sh sl dh dl acc nx m1 rest hF hac hf #[] A c w hx hc hcm) A c w hx hc hcm,
      fun A c w hx hc hcm => law_bad n xs 21 (by omega) _ _ _ hO #[] A c w hx hc hcm⟩
  have hf0 : Six.fragP acc = 0 := by omega
  have hm0 : Six.moreP acc = false := by
    cases h : Six.moreP acc with
    | false => rfl
    | true => exact absurd (.inr h) hf
  obtain ⟨K, y, hy, hU, hL⟩ := upper_both (p6A nx sh sl dh dl ho (40 + Six.sumP acc + m1)) rfl (p6A_one _ _ _ _ _ _ _) true rfl (nx : Int) rfl rest (Six.pseudoB sh sl dh dl m1 nx) (by omega) (by unfold Six.pseudoB maxLen; simp [beB_length, allB])
  have hys : K = 0 → y.size = 23 ∧ y.all (·.oneCell') = true := fun h => ⟨(hy h).size rfl, (hy h).one (p6A_one _ _ _ _ _ _ _)⟩
  have hO : OuterIs n xs 0 (p6A nx sh sl dh dl ho (40 + Six.sumP acc + m1)) rest (Six.pseudoB sh sl dh dl m1 nx) := fun A c w hx hc hcm => outer_six n xs hn0 h6 0 true cl la ho sh sl dh dl acc nx m1 rest hF hac hal (by omega) hpr hsh hsl hdh hdl _ rfl 0 (by rw [if_neg (fun h => hf h.2)]) A c w hx hc hcm
  exact ⟨K, y, fun h => ⟨(hys h).1, (hys h).2, (hy h).six⟩, fun A c w hx hc hcm => Parse_six n xs (by omega) (by omega) h6 K y hys (fun A c w hx hc hcm => parse6_ok n xs cl la ho sh sl dh dl acc nx m1 rest hF hac hal hf0 hm0 (by omega) hpr hsh hsl hdh hdl hr _ rfl K y hU hys A c w hx hc hcm) A c w hx hc hcm,
    fun A c w hx hc hcm => hL n xs hO A c w hx hc hcm⟩
theorem parse_both (n : Nat) (xs : List UInt8) (hn : n ≤ 9000) (A : Option Addr) (c : Nat) (w : World) (hx : IsB w w.heap.size A n xs) (hc : n ≤ c) (hcm : c ≤ maxLen) : ∃ K y, BothIs n xs K y := by
  by_cases h0 : n = 0
  · have hO : OuterIs n xs 2 #[] [] [] := fun A c w hx hc hcm => outer_none n xs h0 #[] [] [] A c w hx hc hcm
    exact ⟨2, #[], fun h => absurd h (by omega), fun A c w hx hc hcm => Parse_none n xs h0 #[] A c w hx hc hcm, fun A c w hx hc hcm => law_bad n xs 2 (by omega) _ _ _ hO #[] A c w hx hc hcm⟩
  by_cases h4 : (xs.getD 0 0).toNat / 16 = 4
  · exact four_both n xs h0 hn h4 A c w hx hc hcm
  by_cases h6 : (xs.getD 0 0).toNat / 16 = 6
  · exact six_both n xs h0 hn h6 A c w hx hc hcm
  have hO : OuterIs n xs 10 #[] [] [] := fun A c w hx hc hcm => outer_else n xs h0 ⟨h4, h6⟩ #[] [] [] A c w hx hc hcm
  exact ⟨10, #[], fun h => absurd h (by omega), fun A c w hx hc hcm => Parse_else n xs (by omega) (by omega) ⟨h4, h6⟩ #[] A c w hx hc hcm, fun A c w hx hc hcm => law_bad n xs 10 (by omega) _ _ _ hO #[] A c w hx hc hcm⟩
end Pkt
end Go.Proofs.Ytdmgbngdpjcliaa
