/- The statement NatTurns, walked. Conditions: a slice of bytes that reads as a list. -/
import Derived.Test.YtfmmmjaficbchaaQNatFlows19
import Derived.Test.YtfmmmjaficbchaaQNatFlows15
namespace Go.Proofs.Ytfmmmjaficbchaa
open Go.RowKit Go.ChangeShapes Go.WideShapes Go.ChangeAt Go.Deep
namespace Nat15
open Pkt (InEnd End2 pkZ IsG pkG alloc_pk size_pk pkZ_size pkZ_one PIs pkG_one pkA pkA_one tuA tuA_one tuZ alloc_tu eql_tu eql_pk neq_pk)
set_option maxRecDepth 20000 in
set_option maxHeartbeats 8000000 in
theorem turns_bad (n0 n c : Nat) (xs U : List UInt8) (y : Array Value) (K : Nat) (hK0 : K ≠ 0) (s : Int) (tv : Bool) (thi tlo : Nat) (port : Int) (A : Option Addr) (w : World) (hx : IsB w w.heap.size A n xs) (hn : min n0 500 = n) (hnc : n0 ≤ c) (hcm : c ≤ maxLen) (hP : PIs n xs K y)
    (hT : ∀ w : World, IsB w w.heap.size A n xs → Calls Try.prog 11 #[.slice A n c, .int .i64 s, .agg #[.bool tv, .int .u64 (thi : Int), .int .u64 (tlo : Int)], .int .i64 port] w fun en w' => InEnd K U w w' en) :
    Calls Try.prog 3 #[.slice A n0 c, .int .i64 s, .agg #[.bool tv, .int .u64 (thi : Int), .int .u64 (tlo : Int)], .int .i64 port] w fun e w' => e = .returned (.bool true) ∧ Below w.heap.size w w' := by
  have hn0 : n0 ≤ maxLen := by omega
  have hnc1 : n ≤ c := by omega
  obtain ⟨w1, hw1⟩ : ∃ w1, w.alloc (.cells #[.bool tv, .int .u64 (thi : Int), .int .u64 (tlo : Int)] 26) = w1 := ⟨_, rfl⟩
  have hB : Below w.heap.size w w1 := hw1 ▸ (Below.refl _ _).alloc (Nat.le_refl _) _
  have hg : w1.heap[w.heap.size]? = some (.cells #[.bool tv, .int .u64 (thi : Int), .int .u64 (tlo : Int)] 26 (0, 0)) := hw1 ▸ blk_new _ _ _
  replace hx := hx.on hB
  have hca := blk_cell hg
  have t0 : ((K : Int) == 0) = false := by rw [beq_eq_false_iff_ne]; omega
  have t1 : ((K : Int) != 0) = true := by rw [bne_iff_ne]; omega
  have hzo : pkZ.all (·.oneCell') = true := pkZ_one
  have hzs : pkZ.size = 23 := pkZ_size
  obtain ⟨z, hz⟩ : ∃ z, pkZ = z := ⟨_, rfl⟩
  rw [hz] at hzo hzs
  clear hg
  replace hP := hide hP
  replace hT := hide hT
  replace hx := hide hx
  replace hzo := hide hzo
  replace hzs := hide hzs
  replace hz := hide hz
  replace hn := hide hn
  replace hB := hide hB
  replace hx := hide hx
  go_enter Try.func3, Try.ntmps3
  go_wp2_with fail
  clear hw1
  refine (Tun.pcut_as _ n0 c n _ hn0 hnc hn.out).mono ?_
  rintro e w' ⟨rfl, rfl⟩
  go_upto_region 2 with fail
  apply wp_region_lit
  iterate 4 (refine wpList_plain rfl fun K hK => ?_; go_simp; refine hK _ _ ?_; clear hK K)
  clear hca
  refine wpList_plain rfl fun K hK => ?_
  go_simp
  refine (hT.out _ hx.out).mono ?_
  rintro e w2 hE
  obtain ⟨v2, rfl, h2, h2n, hb2⟩ := hE
  obtain rfl := h2n hK0
  clear h2 h2n
  replace hB := hide (hB.out.trans (hb2.mono hB.out.size))
  replace hx := hide (hx.out.on hb2)
  clear hb2
  go_simp
  refine hK _ _ ?_
  clear hK K
  iterate 5 (refine wpList_plain rfl fun K hK => ?_; go_simp; refine hK _ _ ?_; clear hK K)
  refine wpList_nil ?_
  go_upto_region 3 with fail
  apply wp_region_lit
  iterate 1 (refine wpList_plain rfl fun K hK => ?_; go_simp; refine hK _ _ ?_; clear hK K)
  refine wpList_plain rfl fun K hK => ?_
  go_simp
  refine (hP.out _ c _ hx.out hnc1 hcm).mono ?_
  rintro e w4 hE
  obtain ⟨rfl, hb4⟩ := hE
  rw [if_neg hK0, hz.out]
  replace hB := hide (hB.out.trans (hb4.mono hB.out.size))
  replace hx := hide (hx.out.on hb4)
  clear hb4
  go_simp
  refine hK _ _ ?_
  clear hK K
  iterate 3 (refine wpList_plain rfl fun K hK => ?_; go_simp; refine hK _ _ ?_; clear hK K)
  refine wpl_new rfl rfl 34 _ (alloc_pk _ rfl) 11 rfl (.tmp 36) rfl _ (fun _ => rfl) (fun _ => rfl) (by rw [pkZ_size]; exact hzs.out) (by rw [size_pk, hzs.out]) hzo.out ?_
  intro w5 hg5 hb5 hz5
  replace hB := hide (hB.out.trans (hb5.mono hB.out.size))
  replace hx := hide (hx.out.on hb5)
  clear hb5
  clear hg5
  iterate 1 (refine wpList_plain rfl fun K hK => ?_; go_simp; refine hK _ _ ?_; clear hK K)
  refine wpList_nil ?_
  go_wp2_with fail
  refine (awake_any _).mono ?_
  rintro e w10 ⟨rfl, hb10⟩
  replace hB := hide (hB.out.trans (hb10.mono hB.out.size))
  replace hx := hide (hx.out.on hb10)
  clear hb10
  go_wp2_with fail
  go_ret
  exact ⟨by rfl, hB.out⟩
set_option maxRecDepth 20000 in
set_option maxHeartbeats 8000000 in
theorem turns_arg (n0 n c : Nat) (xs U : List UInt8) (y : Array Value) (v6 : Bool) (pr : Int) (sv : Bool) (shi slo : Int) (dv : Bool) (dhi dlo sp dp ttl : Int) (fl : Int) (er : Bool) (apr : Int) (asv : Bool) (ashi aslo : Int) (adv : Bool) (adhi adlo asp adp sz : Int)
    (hy : pkG v6 pr sv shi slo dv dhi dlo sp dp ttl fl er apr asv ashi aslo adv adhi adlo asp adp sz = y) (s : Int) (tv : Bool) (thi tlo : Nat) (port : Int) (hbad : (s ≠ 0 ∧ s ≠ 1) ∨ port < 0 ∨ 65535 < port ∨ er = true) (A : Option Addr) (w : World) (hx : IsB w w.heap.size A n xs) (hn : min n0 500 = n) (hnc : n0 ≤ c) (hcm : c ≤ maxLen) (hP : PIs n xs 0 y)
    (hT : ∀ w : World, IsB w w.heap.size A n xs → Calls Try.prog 11 #[.slice A n c, .int .i64 s, .agg #[.bool tv, .int .u64 (thi : Int), .int .u64 (tlo : Int)], .int .i64 port] w fun en w' => InEnd 1 U w w' en) :
    Calls Try.prog 3 #[.slice A n0 c, .int .i64 s, .agg #[.bool tv, .int .u64 (thi : Int), .int .u64 (tlo : Int)], .int .i64 port] w fun e w' => e = .returned (.bool true) ∧ Below w.heap.size w w' := by
  have hn0 : n0 ≤ maxLen := by omega
  have hnc1 : n ≤ c := by omega
  obtain ⟨w1, hw1⟩ : ∃ w1, w.alloc (.cells #[.bool tv, .int .u64 (thi : Int), .int .u64 (tlo : Int)] 26) = w1 := ⟨_, rfl⟩
  have hB : Below w.heap.size w w1 := hw1 ▸ (Below.refl _ _).alloc (Nat.le_refl _) _
  have hg : w1.heap[w.heap.size]? = some (.cells #[.bool tv, .int .u64 (thi : Int), .int .u64 (tlo : Int)] 26 (0, 0)) := hw1 ▸ blk_new _ _ _
  replace hx := hx.on hB
  have hca := blk_cell hg
  have hys : y.size = 23 := hy ▸ rfl
  have hyo : y.all (·.oneCell') = true := hy ▸ pkG_one _ _ _ _ _ _ _ _ _ _ _ _ _ _ _ _ _ _ _ _ _ _ _
  clear hg
  replace hP := hide hP
  replace hT := hide hT
  replace hx := hide hx
  replace hys := hide hys
  replace hyo := hide hyo
  replace hy := hide hy
  replace hn := hide hn
  replace hbad := hide hbad
  replace hB := hide hB
  replace hx := hide hx
  go_enter Try.func3, Try.ntmps3
  go_wp2_with fail
  clear hw1
  refine (Tun.pcut_as _ n0 c n _ hn0 hnc hn.out).mono ?_
  rintro e w' ⟨rfl, rfl⟩
  go_upto_region 2 with fail
  apply wp_region_lit
  iterate 4 (refine wpList_plain rfl fun K hK => ?_; go_simp; refine hK _ _ ?_; clear hK K)
  clear hca
  refine wpList_plain rfl fun K hK => ?_
  go_simp
  refine (hT.out _ hx.out).mono ?_
  rintro e w2 hE
  obtain ⟨v2, rfl, h2, h2n, hb2⟩ := hE
  obtain rfl := h2n (by omega)
  clear h2 h2n
  replace hB := hide (hB.out.trans (hb2.mono hB.out.size))
  replace hx := hide (hx.out.on hb2)
  clear hb2
  go_simp
  refine hK _ _ ?_
  clear hK K
  iterate 5 (refine wpList_plain rfl fun K hK => ?_; go_simp; refine hK _ _ ?_; clear hK K)
  refine wpList_nil ?_
  go_upto_region 3 with fail
  apply wp_region_lit
  iterate 1 (refine wpList_plain rfl fun K hK => ?_; go_simp; refine hK _ _ ?_; clear hK K)
  refine wpList_plain rfl fun K hK => ?_
  go_simp
  refine (hP.out _ c _ hx.out hnc1 hcm).mono ?_
  rintro e w4 hE
  obtain ⟨rfl, hb4⟩ := hE
  rw [if_pos rfl]
  replace hB := hide (hB.out.trans (hb4.mono hB.out.size))
  replace hx := hide (hx.out.on hb4)
  clear hb4
  go_simp
  refine hK _ _ ?_
  clear hK K
  iterate 3 (refine wpList_plain rfl fun K hK => ?_; go_simp; refine hK _ _ ?_; clear hK K)
  refine wpl_new rfl rfl 34 _ (alloc_pk _ rfl) 11 rfl (.tmp 36) rfl _ (fun _ => rfl) (fun _ => rfl) (by rw [pkZ_size]; exact hys.out) (by rw [size_pk, hys.out]) hyo.out ?_
  intro w5 hg5 hb5 hz5
  replace hB := hide (hB.out.trans (hb5.mono hB.out.size))
  replace hx := hide (hx.out.on hb5)
  clear hb5
  iterate 1 (refine wpList_plain rfl fun K hK => ?_; go_simp; refine hK _ _ ?_; clear hK K)
  refine wpList_nil ?_
  have hgy := hg5
  rw [← hy.out] at hgy
  unfold pkG at hgy
  have hcy := blk_cell hgy
  clear hgy hg5
  go_upto_region 5 with fail
  go_cut [60] (fun bv wx => bv = .bool true ∧ w5 = wx)
  case first =>
    have hb := hbad.out
    by_cases e0 : s = 0
    · subst e0
      have hb2 : port < 0 ∨ 65535 < port ∨ er = true := by
        rcases hb with h | h
        · omega
        · exact h
      by_cases q1 : port < 0
      · clear hb hb2
        go_wp2_with fail
        go_meet
        refine ⟨?_, rfl⟩
        congr 1
      by_cases q2 : 65535 < port
      · clear hb hb2
        go_wp2_with fail
        go_meet
        refine ⟨?_, rfl⟩
        congr 1
      obtain rfl : er = true := by
        rcases hb2 with h | h | h
        · omega
        · omega
        · exact h
      clear hb hb2
      go_wp2_with fail
      go_meet
      refine ⟨?_, rfl⟩
      congr 1
    have e0b : (s != 0) = true := by rw [bne_iff_ne]; exact e0
    by_cases e1 : s = 1
    · subst e1
      have hb2 : port < 0 ∨ 65535 < port ∨ er = true := by
        rcases hb with h | h
        · omega
        · exact h
      by_cases q1 : port < 0
      · clear hb hb2
        go_wp2_with fail
        go_meet
        refine ⟨?_, rfl⟩
        congr 1
      by_cases q2 : 65535 < port
      · clear hb hb2
        go_wp2_with fail
        go_meet
        refine ⟨?_, rfl⟩
        congr 1
      obtain rfl : er = true := by
        rcases hb2 with h | h | h
        · omega
        · omega
        · exact h
      clear hb hb2
      go_wp2_with fail
      go_meet
      refine ⟨?_, rfl⟩
      congr 1
    have e1b : (s != 1) = true := by rw [bne_iff_ne]; exact e1
    clear hb e0 e1
    go_wp2_with fail
    go_meet
    exact ⟨rfl, rfl⟩
  case rest =>
  obtain ⟨rfl, rfl⟩ := hcut
  clear hcy
  go_wp2_with fail
  refine (awake_any _).mono ?_
  rintro e w10 ⟨rfl, hb10⟩
  replace hB := hide (hB.out.trans (hb10.mono hB.out.size))
  replace hx := hide (hx.out.on hb10)
  clear hb10
  go_wp2_with fail
  go_ret
  exact ⟨by rfl, hB.out⟩
set_option maxRecDepth 20000 in
set_option maxHeartbeats 8000000 in
theorem turns_addr (n0 n c : Nat) (xs U : List UInt8) (y : Array Value) (v6 : Bool) (pr : Int) (sv : Bool) (shi slo : Int) (dv : Bool) (dhi dlo sp dp ttl : Int) (fl : Int) (apr : Int) (asv : Bool) (ashi aslo : Int) (adv : Bool) (adhi adlo asp adp sz : Int)
    (hy : pkG v6 pr sv shi slo dv dhi dlo sp dp ttl fl false apr asv ashi aslo adv adhi adlo asp adp sz = y) (s : Int) (tv : Bool) (thi tlo : Nat) (port : Int) (hs : s = 0 ∨ s = 1) (p1 : 0 ≤ port) (p2 : port ≤ 65535) (hbad : tv ≠ v6 ∨ Four.okA tv (thi : Int) (tlo : Int) = false) (A : Option Addr) (w : World) (hx : IsB w w.heap.size A n xs) (hn : min n0 500 = n) (hnc : n0 ≤ c) (hcm : c ≤ maxLen) (hP : PIs n xs 0 y)
    (hT : ∀ w : World, IsB w w.heap.size A n xs → Calls Try.prog 11 #[.slice A n c, .int .i64 s, .agg #[.bool tv, .int .u64 (thi : Int), .int .u64 (tlo : Int)], .int .i64 port] w fun en w' => InEnd 18 U w w' en) :
    Calls Try.prog 3 #[.slice A n0 c, .int .i64 s, .agg #[.bool tv, .int .u64 (thi : Int), .int .u64 (tlo : Int)], .int .i64 port] w fun e w' => e = .returned (.bool true) ∧ Below w.heap.size w w' := by
  have hn0 : n0 ≤ maxLen := by omega
  have hnc1 : n ≤ c := by omega
  obtain ⟨w1, hw1⟩ : ∃ w1, w.alloc (.cells #[.bool tv, .int .u64 (thi : Int), .int .u64 (tlo : Int)] 26) = w1 := ⟨_, rfl⟩
  have hB : Below w.heap.size w w1 := hw1 ▸ (Below.refl _ _).alloc (Nat.le_refl _) _
  have hg : w1.heap[w.heap.size]? = some (.cells #[.bool tv, .int .u64 (thi : Int), .int .u64 (tlo : Int)] 26 (0, 0)) := hw1 ▸ blk_new _ _ _
  replace hx := hx.on hB
  have hca := blk_cell hg
  have hys : y.size = 23 := hy ▸ rfl
  have hyo : y.all (·.oneCell') = true := hy ▸ pkG_one _ _ _ _ _ _ _ _ _ _ _ _ _ _ _ _ _ _ _ _ _ _ _
  replace hP := hide hP
  replace hT := hide hT
  replace hx := hide hx
  replace hys := hide hys
  replace hyo := hide hyo
  replace hy := hide hy
  replace hn := hide hn
  replace hbad := hide hbad
  replace hs := hide hs
  replace hB := hide hB
  replace hx := hide hx
  replace hg := hide hg
  go_enter Try.func3, Try.ntmps3
  go_wp2_with fail
  clear hw1
  refine (Tun.pcut_as _ n0 c n _ hn0 hnc hn.out).mono ?_
  rintro e w' ⟨rfl, rfl⟩
  go_upto_region 2 with fail
  apply wp_region_lit
  iterate 4 (refine wpList_plain rfl fun K hK => ?_; go_simp; refine hK _ _ ?_; clear hK K)
  clear hca
  refine wpList_plain rfl fun K hK => ?_
  go_simp
  refine (hT.out _ hx.out).mono ?_
  rintro e w2 hE
  obtain ⟨v2, rfl, h2, h2n, hb2⟩ := hE
  obtain rfl := h2n (by omega)
  clear h2 h2n
  replace hB := hide (hB.out.trans (hb2.mono hB.out.size))
  replace hx := hide (hx.out.on hb2)
  replace hg := hide (blk_on hb2 hg.out)
  clear hb2
  go_simp
  refine hK _ _ ?_
  clear hK K
  iterate 5 (refine wpList_plain rfl fun K hK => ?_; go_simp; refine hK _ _ ?_; clear hK K)
  refine wpList_nil ?_
  go_upto_region 3 with fail
  apply wp_region_lit
  iterate 1 (refine wpList_plain rfl fun K hK => ?_; go_simp; refine hK _ _ ?_; clear hK K)
  refine wpList_plain rfl fun K hK => ?_
  go_simp
  refine (hP.out _ c _ hx.out hnc1 hcm).mono ?_
  rintro e w4 hE
  obtain ⟨rfl, hb4⟩ := hE
  rw [if_pos rfl]
  replace hB := hide (hB.out.trans (hb4.mono hB.out.size))
  replace hx := hide (hx.out.on hb4)
  replace hg := hide (blk_on hb4 hg.out)
  clear hb4
  go_simp
  refine hK _ _ ?_
  clear hK K
  iterate 3 (refine wpList_plain rfl fun K hK => ?_; go_simp; refine hK _ _ ?_; clear hK K)
  refine wpl_new rfl rfl 34 _ (alloc_pk _ rfl) 11 rfl (.tmp 36) rfl _ (fun _ => rfl) (fun _ => rfl) (by rw [pkZ_size]; exact hys.out) (by rw [size_pk, hys.out]) hyo.out ?_
  intro w5 hg5 hb5 hz5
  replace hB := hide (hB.out.trans (hb5.mono hB.out.size))
  replace hx := hide (hx.out.on hb5)
  replace hg := hide (blk_on hb5 hg.out)
  clear hb5
  iterate 1 (refine wpList_plain rfl fun K hK => ?_; go_simp; refine hK _ _ ?_; clear hK K)
  refine wpList_nil ?_
  have hgy := hg5
  rw [← hy.out] at hgy
  unfold pkG at hgy
  have hcy := blk_cell hgy
  have hca := blk_cell hg.out
  clear hgy hg5
  go_upto_region 5 with fail
  go_cut [60] (fun bv wx => bv = .bool false ∧ w5 = wx)
  case first =>
    rcases hs.out with rfl | rfl
    · go_wp2_with fail
      go_meet
      refine ⟨?_, rfl⟩
      congr 1
      simp only [Bool.or_eq_false_iff, decide_eq_false_iff_not]
      omega
    · go_wp2_with fail
      go_meet
      refine ⟨?_, rfl⟩
      congr 1
      simp only [Bool.or_eq_false_iff, decide_eq_false_iff_not]
      omega
  case rest =>
  obtain ⟨rfl, rfl⟩ := hcut
  go_upto_region 7 with fail
  by_cases hv : tv = v6
  · have hok : Four.okA tv (thi : Int) (tlo : Int) = false := by
      rcases hbad.out with h | h
      · exact absurd hv h
      · exact h
    subst hv
    have hne : (tv != tv) = false := by simp
    replace hok := hide hok
    go_wp2_with fail
    clear hcy hca
    refine (Four.addr_right tv thi tlo false _ hok.out).mono ?_
    rintro e w6 ⟨rfl, hb6⟩
    replace hB := hide (hB.out.trans (hb6.mono hB.out.size))
    replace hx := hide (hx.out.on hb6)
    replace hg := hide (blk_on hb6 hg.out)
    clear hb6
    go_wp2_with fail
    refine (awake_any _).mono ?_
    rintro e w10 ⟨rfl, hb10⟩
    replace hB := hide (hB.out.trans (hb10.mono hB.out.size))
    replace hx := hide (hx.out.on hb10)
    replace hg := hide (blk_on hb10 hg.out)
    clear hb10
    go_wp2_with fail
    go_ret
    exact ⟨by rfl, hB.out⟩
  · have hne : (tv != v6) = true := by rw [bne_iff_ne]; exact hv
    replace hv : ¬ tv = v6 := hv
    go_wp2_with fail
    refine (awake_any _).mono ?_
    rintro e w10 ⟨rfl, hb10⟩
    replace hB := hide (hB.out.trans (hb10.mono hB.out.size))
    replace hx := hide (hx.out.on hb10)
    replace hg := hide (blk_on hb10 hg.out)
    clear hb10
    clear hcy hca
    go_wp2_with fail
    go_ret
    exact ⟨by rfl, hB.out⟩
end Nat15
end Go.Proofs.Ytfmmmjaficbchaa
/- The statement NatTurns, where the packet is turned, and turned back. Conditions: what nat.Turn and pkt.Parse make of the bytes is known. -/
namespace Go.Proofs.Ytfmmmjaficbchaa
open Go.RowKit Go.ChangeShapes Go.WideShapes Go.ChangeAt Go.Deep
namespace Nat15
open Pkt (InEnd End2 pkZ IsG pkG alloc_pk size_pk pkZ_size pkZ_one PIs pkG_one pkA pkA_one tuA tuA_one tuZ alloc_tu eql_tu eql_pk neq_pk)
set_option maxRecDepth 20000 in
set_option maxHeartbeats 16000000 in
theorem turns_ok (n0 n c T m : Nat) (xs X Y : List UInt8) (v6 : Bool) (pr : Nat) (shi slo dhi dlo sp dp ttl fl : Nat) (s thi tlo port whi wlo wp : Nat) (ta tb tc td te tf : Nat) (A : Option Addr) (w : World) (hx : IsB w w.heap.size A n xs) (hn : min n0 500 = n) (hnc : n0 ≤ c) (hcm : c ≤ maxLen)
    (hs1 : s ≤ 1) (p2 : port ≤ 65535) (hok : Four.okA v6 (thi : Int) (tlo : Int) = true) (hTn : T ≤ 4000) (hXl : X.length = T) (hYl : Y.length = m)
    (hwhi : (if s = 0 then shi else dhi) = whi) (hwlo : (if s = 0 then slo else dlo) = wlo) (hwp : (if s = 0 then sp else dp) = wp)
    (hq : (if (s : Int) = 0 then tuA pr v6 (thi : Int) (tlo : Int) v6 dhi dlo (port : Int) dp else tuA pr v6 shi slo v6 (thi : Int) (tlo : Int) sp (port : Int)) = tuA pr v6 ta tb v6 tc td te tf)
    (hP : PIs n xs 0 (pkA v6 pr shi slo dhi dlo sp dp ttl fl T)) (hP2 : PIs T X 0 (pkA v6 pr ta tb tc td te tf ttl fl T)) (hP3 : PIs m Y 0 (pkA v6 pr shi slo dhi dlo sp dp ttl fl T))
    (hT : ∀ w : World, IsB w w.heap.size A n xs → Calls Try.prog 11 #[.slice A n c, .int .i64 (s : Int), .agg #[.bool v6, .int .u64 (thi : Int), .int .u64 (tlo : Int)], .int .i64 (port : Int)] w fun en w' => InEnd 0 X w w' en)
    (hTb : ∀ (A : Option Addr) (c : Nat) (w : World), IsB w w.heap.size A T X → T ≤ c → c ≤ maxLen → Calls Try.prog 11 #[.slice A T c, .int .i64 (s : Int), .agg #[.bool v6, .int .u64 (whi : Int), .int .u64 (wlo : Int)], .int .i64 (wp : Int)] w fun en w' => InEnd 0 Y w w' en) :
    Calls Try.prog 3 #[.slice A n0 c, .int .i64 (s : Int), .agg #[.bool v6, .int .u64 (thi : Int), .int .u64 (tlo : Int)], .int .i64 (port : Int)] w fun e w' => e = .returned (.bool true) ∧ Below w.heap.size w w' := by
  have hn0 : n0 ≤ maxLen := by omega
  have hnc1 : n ≤ c := by omega
  obtain ⟨w1, hw1⟩ : ∃ w1, w.alloc (.cells #[.bool v6, .int .u64 (thi : Int), .int .u64 (tlo : Int)] 26) = w1 := ⟨_, rfl⟩
  have hB : Below w.heap.size w w1 := hw1 ▸ (Below.refl _ _).alloc (Nat.le_refl _) _
  have hg : w1.heap[w.heap.size]? = some (.cells #[.bool v6, .int .u64 (thi : Int), .int .u64 (tlo : Int)] 26 (0, 0)) := hw1 ▸ blk_new _ _ _
  replace hx := hx.on hB
  have hca := blk_cell hg
  have p1 : (0 : Int) ≤ (port : Int) := by omega
  have p2' : (port : Int) ≤ 65535 := by omega
  have hTu := fun w => turned_any pr v6 shi slo v6 dhi dlo sp dp (s : Int) v6 thi tlo port w
  simp only [hq] at hTu
  obtain ⟨y, hy⟩ : ∃ y, pkA v6 pr shi slo dhi dlo sp dp ttl fl T = y := ⟨_, rfl⟩
  obtain ⟨y2, hy2⟩ : ∃ y, pkA v6 pr ta tb tc td te tf ttl fl T = y := ⟨_, rfl⟩
  rw [hy] at hP hP3
  rw [hy2] at hP2
  have hys : y.size = 23 := hy ▸ rfl
  have hyo : y.all (·.oneCell') = true := hy ▸ pkA_one _ _ _ _ _ _ _ _ _ _ _
  have hys2 : y2.size = 23 := hy2 ▸ rfl
  have hyo2 : y2.all (·.oneCell') = true := hy2 ▸ pkA_one _ _ _ _ _ _ _ _ _ _ _
  clear hq
  replace hP := hide hP
  replace hP2 := hide hP2
  replace hP3 := hide hP3
  replace hT := hide hT
  replace hTb := hide hTb
  replace hTu := hide hTu
  replace hx := hide hx
  replace hn := hide hn
  replace hok := hide hok
  replace hXl := hide hXl
  replace hYl := hide hYl
  replace hwhi := hide hwhi
  replace hwlo := hide hwlo
  replace hwp := hide hwp
  replace hy := hide hy
  replace hy2 := hide hy2
  replace hys := hide hys
  replace hyo := hide hyo
  replace hys2 := hide hys2
  replace hyo2 := hide hyo2
  replace hB := hide hB
  replace hx := hide hx
  replace hg := hide hg
  go_enter Try.func3, Try.ntmps3
  go_wp2_with fail
  clear hw1
  refine (Tun.pcut_as _ n0 c n _ hn0 hnc hn.out).mono ?_
  rintro e w' ⟨rfl, rfl⟩
  go_upto_region 2 with fail
  apply wp_region_lit
  iterate 4 (refine wpList_plain rfl fun K hK => ?_; go_simp; refine hK _ _ ?_; clear hK K)
  clear hca
  refine wpList_plain rfl fun K hK => ?_
  go_simp
  refine (hT.out _ hx.out).mono ?_
  rintro e w2 hE
  obtain ⟨v2, rfl, h2, h2n, hb2⟩ := hE
  obtain ⟨A2, c2, rfl, hc2, hm2, hi2⟩ := (h2 rfl).form
  rw [hXl.out] at hc2 hi2 ⊢
  clear h2 h2n
  replace hB := hide (hB.out.trans (hb2.mono hB.out.size))
  replace hx := hide (hx.out.on hb2)
  replace hg := hide (blk_on hb2 hg.out)
  clear hb2
  replace hi2 := hide hi2
  go_simp
  refine hK _ _ ?_
  clear hK K
  iterate 5 (refine wpList_plain rfl fun K hK => ?_; go_simp; refine hK _ _ ?_; clear hK K)
  refine wpList_nil ?_
  go_upto_region 3 with fail
  apply wp_region_lit
  iterate 1 (refine wpList_plain rfl fun K hK => ?_; go_simp; refine hK _ _ ?_; clear hK K)
  refine wpList_plain rfl fun K hK => ?_
  go_simp
  refine (hP.out _ c _ hx.out hnc1 hcm).mono ?_
  rintro e w4 hE
  obtain ⟨rfl, hb4⟩ := hE
  rw [if_pos rfl]
  replace hB := hide (hB.out.trans (hb4.mono hB.out.size))
  replace hx := hide (hx.out.on hb4)
  replace hg := hide (blk_on hb4 hg.out)
  replace hi2 := hide (hi2.out.on hb4)
  clear hb4
  go_simp
  refine hK _ _ ?_
  clear hK K
  iterate 3 (refine wpList_plain rfl fun K hK => ?_; go_simp; refine hK _ _ ?_; clear hK K)
  refine wpl_new rfl rfl 34 _ (alloc_pk _ rfl) 11 rfl (.tmp 36) rfl _ (fun _ => rfl) (fun _ => rfl) (by rw [pkZ_size]; exact hys.out) (by rw [size_pk, hys.out]) hyo.out ?_
  intro w5 hg5 hb5 hz5
  replace hB := hide (hB.out.trans (hb5.mono hB.out.size))
  replace hx := hide (hx.out.on hb5)
  replace hg := hide (blk_on hb5 hg.out)
  replace hi2 := hide (hi2.out.on hb5)
  clear hb5
  clear hx
  replace hg5 := hide hg5
  iterate 1 (refine wpList_plain rfl fun K hK => ?_; go_simp; refine hK _ _ ?_; clear hK K)
  refine wpList_nil ?_
  have hgy := hg5.out
  rw [← hy.out] at hgy
  unfold pkA at hgy
  have hcy := blk_cell hgy
  have hca := blk_cell hg.out
  clear hgy
  go_upto_region 5 with fail
  go_cut [60] (fun bv wx => bv = .bool false ∧ w5 = wx)
  case first =>
    have h01 : s = 0 ∨ s = 1 := by omega
    rcases h01 with rfl | rfl
    · go_wp2_with fail
      go_meet
      refine ⟨?_, rfl⟩
      congr 1
      simp only [Bool.or_eq_false_iff, decide_eq_false_iff_not]
      omega
    · go_wp2_with fail
      go_meet
      refine ⟨?_, rfl⟩
      congr 1
      simp only [Bool.or_eq_false_iff, decide_eq_false_iff_not]
      omega
  case rest =>
  obtain ⟨rfl, rfl⟩ := hcut
  go_upto_region 7 with fail
  have hne : (v6 != v6) = false := by simp
  go_wp2_with fail
  clear hcy hca
  refine (Four.addr_right v6 thi tlo true _ hok.out).mono ?_
  rintro e w6 ⟨rfl, hb6⟩
  replace hB := hide (hB.out.trans (hb6.mono hB.out.size))
  replace hg := hide (blk_on hb6 hg.out)
  replace hi2 := hide (hi2.out.on hb6)
  replace hg5 := hide (blk_on hb6 hg5.out)
  clear hb6
  go_upto_region 11 with fail
  apply wp_region_lit
  iterate 1 (refine wpList_plain rfl fun K hK => ?_; go_simp; refine hK _ _ ?_; clear hK K)
  refine wpList_plain rfl fun K hK => ?_
  go_simp
  refine (hP2.out _ c2 _ hi2.out hc2 hm2).mono ?_
  rintro e w7 hE
  obtain ⟨rfl, hb7⟩ := hE
  rw [if_pos rfl]
  replace hB := hide (hB.out.trans (hb7.mono hB.out.size))
  replace hg := hide (blk_on hb7 hg.out)
  replace hi2 := hide (hi2.out.on hb7)
  replace hg5 := hide (blk_on hb7 hg5.out)
  clear hb7
  go_simp
  refine hK _ _ ?_
  clear hK K
  iterate 3 (refine wpList_plain rfl fun K hK => ?_; go_simp; refine hK _ _ ?_; clear hK K)
  refine wpl_new rfl rfl 34 _ (alloc_pk _ rfl) 14 rfl (.tmp 91) rfl _ (fun _ => rfl) (fun _ => rfl) (by rw [pkZ_size]; exact hys2.out) (by rw [size_pk, hys2.out]) hyo2.out ?_
  intro w8 hg8 hb8 hz8
  replace hB := hide (hB.out.trans (hb8.mono hB.out.size))
  replace hg := hide (blk_on hb8 hg.out)
  replace hi2 := hide (hi2.out.on hb8)
  replace hg5 := hide (blk_on hb8 hg5.out)
  clear hb8
  replace hg8 := hide hg8
  iterate 1 (refine wpList_plain rfl fun K hK => ?_; go_simp; refine hK _ _ ?_; clear hK K)
  refine wpList_nil ?_
  go_upto_region 12 with fail
  apply wp_region_lit
  refine wpl_val (.agg y) rfl (run_ldw w8 _ 34 (.tmp 11) rfl w4.heap.size rfl y _ hg5.out Try.underlying34 rfl (by rw [size_pk, hys.out])) ?_
  dsimp only [Act.put]
  refine wpl_new rfl rfl 34 _ (alloc_pk _ rfl) 16 rfl (.tmp 93) rfl _ (fun _ => rfl) (fun _ => rfl) (by rw [pkZ_size]; exact hys.out) (by rw [size_pk, hys.out]) hyo.out ?_
  intro w9 hg9 hb9 hz9
  refine wpList_nil ?_
  have hgy := blk_on hb9 hg5.out
  rw [← hy.out] at hgy
  unfold pkA at hgy
  have hcy := blk_cell hgy
  have hca := blk_cell (blk_on hb9 hg.out)
  clear hgy
  replace hb9 := hide hb9
  replace hg9 := hide hg9
  go_upto_region 13 with fail
  apply wp_region_lit
  iterate 5 (refine wpList_plain rfl fun K hK => ?_; go_simp; refine hK _ _ ?_; clear hK K)
  clear hcy hca
  refine wpList_plain rfl fun K hK => ?_
  go_simp
  refine (hTu.out _).mono ?_
  rintro e w10 hE
  obtain ⟨rfl, hb10⟩ := hE
  go_simp
  refine hK _ _ ?_
  clear hK K
  iterate 1 (refine wpList_plain rfl fun K hK => ?_; go_simp; refine hK _ _ ?_; clear hK K)
  have z9 := hb9.out.size
  have hg10 := blk_on hb10 hg9.out
  refine wpl_st rfl 32 (.tmp 100) (.tmp 99) rfl w8.heap.size 1 rfl (tuA pr v6 ta tb v6 tc td te tf) rfl hg10 (by rw [hys.out]; exact (show 1 + 9 ≤ 23 by omega)) size_tu (tuA_one _ _ _ _ _ _ _ _ _) fun w11 hg11 g11 => ?_
  rw [← hy.out, show putA (pkA v6 pr shi slo dhi dlo sp dp ttl fl T) 1 (tuA pr v6 ta tb v6 tc td te tf).toList = pkA v6 pr ta tb tc td te tf ttl fl T from rfl, hy2.out] at hg11
  have hb11 : Below w8.heap.size w8 w11 := (hb9.out.trans (hb10.mono z9)).trans (below_grown g11 (by have := hb10.size; omega) (Nat.le_refl _))
  clear g11 hg10 hg9 hb9 hb10 z9
  replace hB := hide (hB.out.trans (hb11.mono hB.out.size))
  replace hg := hide (blk_on hb11 hg.out)
  replace hi2 := hide (hi2.out.on hb11)
  replace hg5 := hide (blk_on hb11 hg5.out)
  replace hg8 := hide (blk_on hb11 hg8.out)
  clear hb11
  replace hg11 := hide hg11
  refine wpList_nil ?_
  go_upto_region 14 with fail
  have hgy := hg5.out
  rw [← hy.out] at hgy
  unfold pkA at hgy
  have hcy := blk_cell hgy
  clear hgy
  apply wp_region_lit
  iterate 3 (refine wpList_plain rfl fun K hK => ?_; go_simp; refine hK _ _ ?_; clear hK K)
  iterate 2 (refine wpList_step fun K hK => ?_; go_simp; refine hK _ _ ?_; clear hK K)
  iterate 2 (refine wpList_plain rfl fun K hK => ?_; go_simp; refine hK _ _ ?_; clear hK K)
  refine wpl_val (.agg y2) rfl (run_ldw w11 _ 34 (.tmp 14) rfl w7.heap.size rfl y2 _ hg8.out Try.underlying34 rfl (by rw [size_pk, hys2.out])) ?_
  dsimp only [Act.put]
  refine wpl_val (.agg y2) rfl (run_ldw w11 _ 34 (.tmp 16) rfl w8.heap.size rfl y2 _ hg11.out Try.underlying34 rfl (by rw [size_pk, hys2.out])) ?_
  dsimp only [Act.put]
  refine wpl_val (.bool false) rfl (neq_pk v6 pr v6 ta tb v6 tc td te tf ttl fl false 0 false 0 0 false 0 0 0 0 T _ (.tmp 108) (.tmp 109) rfl (by rw [← hy2.out]; rfl) (by rw [← hy2.out]; rfl) w11) ?_
  dsimp only [Act.put]
  go_upto_region 16 with fail
  clear hcy
  have hgy := hg5.out
  rw [← hy.out] at hgy
  unfold pkA at hgy
  have zy := blk_lt hgy
  refine wp_region_S w11.heap.size (fun _ => False) (by as_aux_lemma => kernel_rfl) ?_
  intro wd hbd
  have hgyd := blk_below hbd zy hgy
  have hcyL := fun (l : KeptSW w11.heap.size (fun _ => False) wd) (o : Nat) => blk_cell (l.blk hgyd zy (fun h => h)) o
  clear hgy
  have z5 := hbd.size
  refine wpS_seg w11.heap.size (fun _ => False) 0 6 (fuel := 3) (by as_aux_lemma => kernel_rfl) (fun d _ _ _ _ h => by cases d <;> exact h) (by as_aux_lemma => kernel_rfl) (by as_aux_lemma => kernel_rfl) ?_
  simp only [List.drop_zero, List.take_succ_cons, List.take_zero]
  iterate 6 (refine wpQS_step (fun K hK => ?_); go_simp; refine hK _ ?_; clear hK K)
  refine wpQF_nil ?_
  clear hcyL hgyd
  have hbl : Below w11.heap.size wd (wd.alloc (.cells #[.bool false, .int .u64 0, .int .u64 0] 26)) := (Below.refl _ _).alloc z5 _
  have hgw := blk_new wd 26 #[.bool false, .int .u64 0, .int .u64 0]
  refine wpF_step 6 rfl (by as_aux_lemma => kernel_rfl) (fun K hK => ?_)
  go_simp
  refine hK _ _ (keptS_of_below hbl (Nat.le_refl _)) ?_
  clear hK K
  change wpF _ _ _ _ _ _ _ _ (wd.alloc (.cells #[.bool false, .int .u64 0, .int .u64 0] 26))
  generalize wd.alloc (.cells #[.bool false, .int .u64 0, .int .u64 0] 26) = w6' at hbl hgw ⊢
  have zw6 := blk_lt hgw
  refine wpF_st 7 rfl (by as_aux_lemma => kernel_rfl) rfl 26 (.tmp 17) (.tmp 121) rfl wd.heap.size 0 rfl #[.bool v6, .int .u64 (shi : Int), .int .u64 (slo : Int)] rfl hgw (show 0 + 3 ≤ 3 by omega) (by kernel_rfl) (ad_one _ _ _) fun w17 hg17 g17 => ?_
  rw [putA_whole #[.bool false, .int .u64 0, .int .u64 0] #[.bool v6, .int .u64 (shi : Int), .int .u64 (slo : Int)] rfl] at hg17
  have hb67 : Below w11.heap.size w6' w17 := below_grown g17 (by omega) z5
  have hb17 : Below w11.heap.size w11 w17 := (hbd.trans hbl).trans hb67
  refine ⟨keptS_of_below hb67 (Nat.le_refl _), ?_⟩
  have zw17 := blk_lt hg17
  generalize wd.heap.size = gw at hg17 zw17 z5 ⊢
  have zgy : w4.heap.size ≠ gw := by omega
  have hgy7 := blk_below hb17 zy hg5.out
  clear g17 hgw hbl hb67 zw6
  replace hg17 := hide hg17
  replace hb17 := hide hb17
  replace hgy7 := hide hgy7
  refine wpF_step 8 rfl (by as_aux_lemma => kernel_rfl) (fun K hK => ?_)
  go_simp
  refine hK _ _ (keptS_refl _ _ _) ?_
  clear hK K
  refine wpF_done (by as_aux_lemma => kernel_rfl) ?_ 0
  go_upto_if 126 with fail
  go_cut [17, 18] (fun gv wv wx => ∃ gw, gv = .pointer (some ⟨gw, 0, none⟩) ∧ wv = .int .i64 (wp : Int) ∧ wx.heap[gw]? = some (.cells #[.bool v6, .int .u64 (whi : Int), .int .u64 (wlo : Int)] 26 (0, 0)) ∧ w11.heap.size ≤ gw ∧ Below w11.heap.size w11 wx)
  case first =>
    have h01 : s = 0 ∨ s = 1 := by omega
    rcases h01 with rfl | rfl
    · obtain rfl : slo = wlo := hwlo.out
      obtain rfl : shi = whi := hwhi.out
      obtain rfl : sp = wp := hwp.out
      go_wp2_with fail
      go_meet
      exact ⟨gw, rfl, rfl, hg17.out, z5, hb17.out⟩
    · obtain rfl : dlo = wlo := hwlo.out
      obtain rfl : dhi = whi := hwhi.out
      obtain rfl : dp = wp := hwp.out
      go_upto_region 18 with fail
      have hgy := hgy7.out
      rw [← hy.out] at hgy
      unfold pkA at hgy
      refine wp_region_S w17.heap.size (fun k => k = gw) (by as_aux_lemma => kernel_rfl) ?_
      intro we hbe
      have hgye := blk_below hbe (blk_lt hgy) hgy
      have hg7e := blk_below hbe zw17 hg17.out
      have hcyL := fun (l : KeptSW w17.heap.size (fun k => k = gw) we) (o : Nat) => blk_cell (l.blk hgye (blk_lt hgy) (fun h => zgy h)) o
      have z7 := hbe.size
      have zb7 := hb17.out.size
      clear hgy
      refine wpS_seg w17.heap.size (fun k => k = gw) 0 6 (fuel := 2) (by as_aux_lemma => kernel_rfl) (fun d _ _ _ _ h => by cases d <;> exact h) (by as_aux_lemma => kernel_rfl) (by as_aux_lemma => kernel_rfl) ?_
      simp only [List.drop_zero, List.take_succ_cons, List.take_zero]
      iterate 6 (refine wpQS_step (fun K hK => ?_); go_simp; refine hK _ ?_; clear hK K)
      refine wpQF_nil ?_
      clear hcyL hgye
      refine wpF_st 6 rfl (by as_aux_lemma => kernel_rfl) rfl 26 (.tmp 17) (.tmp 129) rfl gw 0 rfl #[.bool v6, .int .u64 (dhi : Int), .int .u64 (dlo : Int)] rfl hg7e (show 0 + 3 ≤ 3 by omega) (by kernel_rfl) (ad_one _ _ _) fun w18 hg18 g18 => ?_
      rw [putA_whole #[.bool v6, .int .u64 (shi : Int), .int .u64 (slo : Int)] #[.bool v6, .int .u64 (dhi : Int), .int .u64 (dlo : Int)] rfl] at hg18
      have hb18 : Below w11.heap.size w11 w18 := (hb17.out.trans (hbe.mono zb7)).trans (below_grown g18 (by omega) z5)
      refine ⟨Pkt.keptS_grown1 g18 z7 rfl, ?_⟩
      clear g18 hg7e
      replace hg18 := hide hg18
      replace hb18 := hide hb18
      refine wpF_step 7 rfl (by as_aux_lemma => kernel_rfl) (fun K hK => ?_)
      go_simp
      refine hK _ _ (keptS_refl _ _ _) ?_
      clear hK K
      refine wpF_done (by as_aux_lemma => kernel_rfl) ?_ 0
      go_wp2_with fail
      go_meet
      exact ⟨gw, rfl, rfl, hg18.out, z5, hb18.out⟩
  case rest =>
  obtain ⟨gv, rfl, rfl, hgv, zv, hb19⟩ := hcut
  clear hg17 hb17 hgy7 zgy zw17 z5 zy
  replace hB := hide (hB.out.trans (hb19.mono hB.out.size))
  replace hg := hide (blk_on hb19 hg.out)
  replace hi2 := hide (hi2.out.on hb19)
  replace hg5 := hide (blk_on hb19 hg5.out)
  replace hg8 := hide (blk_on hb19 hg8.out)
  clear hb19
  have hca := blk_cell hgv
  go_upto_region 19 with fail
  apply wp_region_lit
  iterate 4 (refine wpList_plain rfl fun K hK => ?_; go_simp; refine hK _ _ ?_; clear hK K)
  clear hca hgv
  refine wpList_plain rfl fun K hK => ?_
  go_simp
  refine (hTb.out A2 c2 _ hi2.out hc2 hm2).mono ?_
  rintro e w20 hE
  obtain ⟨v20, rfl, h20, -, hb20⟩ := hE
  obtain ⟨A20, c20, rfl, hc20, hm20, hi20⟩ := (h20 rfl).form
  rw [hYl.out] at hc20 hi20 ⊢
  clear h20
  replace hB := hide (hB.out.trans (hb20.mono hB.out.size))
  replace hg := hide (blk_on hb20 hg.out)
  replace hi2 := hide (hi2.out.on hb20)
  replace hg5 := hide (blk_on hb20 hg5.out)
  replace hg8 := hide (blk_on hb20 hg8.out)
  clear hb20
  replace hi20 := hide hi20
  go_simp
  refine hK _ _ ?_
  clear hK K
  iterate 5 (refine wpList_plain rfl fun K hK => ?_; go_simp; refine hK _ _ ?_; clear hK K)
  refine wpList_nil ?_
  go_upto_region 20 with fail
  apply wp_region_lit
  iterate 1 (refine wpList_plain rfl fun K hK => ?_; go_simp; refine hK _ _ ?_; clear hK K)
  refine wpList_plain rfl fun K hK => ?_
  go_simp
  refine (hP3.out _ c20 _ hi20.out hc20 hm20).mono ?_
  rintro e w21 hE
  obtain ⟨rfl, hb21⟩ := hE
  rw [if_pos rfl]
  clear hi20
  replace hB := hide (hB.out.trans (hb21.mono hB.out.size))
  replace hg := hide (blk_on hb21 hg.out)
  replace hi2 := hide (hi2.out.on hb21)
  replace hg5 := hide (blk_on hb21 hg5.out)
  replace hg8 := hide (blk_on hb21 hg8.out)
  clear hb21
  go_simp
  refine hK _ _ ?_
  clear hK K
  iterate 3 (refine wpList_plain rfl fun K hK => ?_; go_simp; refine hK _ _ ?_; clear hK K)
  refine wpl_new rfl rfl 34 _ (alloc_pk _ rfl) 21 rfl (.tmp 144) rfl _ (fun _ => rfl) (fun _ => rfl) (by rw [pkZ_size]; exact hys.out) (by rw [size_pk, hys.out]) hyo.out ?_
  intro w22 hg22 hb22 hz22
  replace hB := hide (hB.out.trans (hb22.mono hB.out.size))
  replace hg := hide (blk_on hb22 hg.out)
  replace hi2 := hide (hi2.out.on hb22)
  replace hg5 := hide (blk_on hb22 hg5.out)
  replace hg8 := hide (blk_on hb22 hg8.out)
  clear hb22
  replace hg22 := hide hg22
  iterate 1 (refine wpList_plain rfl fun K hK => ?_; go_simp; refine hK _ _ ?_; clear hK K)
  refine wpList_nil ?_
  go_upto_region 21 with fail
  apply wp_region_lit
  iterate 3 (refine wpList_plain rfl fun K hK => ?_; go_simp; refine hK _ _ ?_; clear hK K)
  iterate 2 (refine wpList_step fun K hK => ?_; go_simp; refine hK _ _ ?_; clear hK K)
  iterate 2 (refine wpList_plain rfl fun K hK => ?_; go_simp; refine hK _ _ ?_; clear hK K)
  refine wpl_val (.agg y) rfl (run_ldw w22 _ 34 (.tmp 21) rfl w21.heap.size rfl y _ hg22.out Try.underlying34 rfl (by rw [size_pk, hys.out])) ?_
  dsimp only [Act.put]
  refine wpl_val (.agg y) rfl (run_ldw w22 _ 34 (.tmp 11) rfl w4.heap.size rfl y _ hg5.out Try.underlying34 rfl (by rw [size_pk, hys.out])) ?_
  dsimp only [Act.put]
  refine wpl_val (.bool true) rfl (eql_pk v6 pr v6 shi slo v6 dhi dlo sp dp ttl fl false 0 false 0 0 false 0 0 0 0 T _ (.tmp 153) (.tmp 154) rfl (by rw [← hy.out]; rfl) (by rw [← hy.out]; rfl) w22) ?_
  dsimp only [Act.put]
  go_wp2_with fail
  refine (awake_any _).mono ?_
  rintro e w23 ⟨rfl, hb23⟩
  replace hB := hide (hB.out.trans (hb23.mono hB.out.size))
  replace hg := hide (blk_on hb23 hg.out)
  replace hi2 := hide (hi2.out.on hb23)
  replace hg5 := hide (blk_on hb23 hg5.out)
  replace hg8 := hide (blk_on hb23 hg8.out)
  clear hb23
  go_wp2_with fail
  go_ret
  exact ⟨by rfl, hB.out⟩
end Nat15
end Go.Proofs.Ytfmmmjaficbchaa
/- The statement NatTurns, walked whole. Conditions: a slice of bytes that reads as a list, numbers of 64 bits. -/
namespace Go.Proofs.Ytfmmmjaficbchaa
open Go.RowKit Go.ChangeShapes Go.WideShapes Go.ChangeAt Go.Deep
namespace Nat15
open Pkt (PIs pkA pkG tuA)
theorem turns_error (n0 n c : Nat) (xs : List UInt8) (v6 : Bool) (pr : Int) (sv : Bool) (shi slo : Int) (dv : Bool) (dhi dlo sp dp ttl : Int) (fl : Int) (er : Bool) (apr : Int) (asv : Bool) (ashi aslo : Int) (adv : Bool) (adhi adlo asp adp sz : Int) (s : Int) (tv : Bool) (thi tlo : Nat) (port : Int)
    (hP : PIs n xs 0 (pkG v6 pr sv shi slo dv dhi dlo sp dp ttl fl er apr asv ashi aslo adv adhi adlo asp adp sz)) (hbad : (s ≠ 0 ∧ s ≠ 1) ∨ port < 0 ∨ 65535 < port ∨ er = true) (A : Option Addr) (w : World) (hx : IsB w w.heap.size A n xs) (hn : min n0 500 = n) (hnc : n0 ≤ c) (hcm : c ≤ maxLen) :
    Calls Try.prog 3 #[.slice A n0 c, .int .i64 s, .agg #[.bool tv, .int .u64 (thi : Int), .int .u64 (tlo : Int)], .int .i64 port] w fun e w' => e = .returned (.bool true) ∧ Below w.heap.size w w' :=
  turns_arg n0 n c xs [] _ _ _ _ _ _ _ _ _ _ _ _ _ _ _ _ _ _ _ _ _ _ _ _ rfl s tv thi tlo port hbad A w hx hn hnc hcm hP
    (fun w hx => turn_arg n c xs [] _ _ _ _ _ _ _ _ _ _ _ _ _ _ _ _ _ _ _ _ _ _ _ _ rfl s tv thi tlo port hbad A w hx (by omega) hcm hP)
theorem turns_wrong (n0 n c : Nat) (xs : List UInt8) (v6 : Bool) (pr : Int) (sv : Bool) (shi slo : Int) (dv : Bool) (dhi dlo sp dp ttl : Int) (fl : Int) (apr : Int) (asv : Bool) (ashi aslo : Int) (adv : Bool) (adhi adlo asp adp sz : Int) (s : Int) (tv : Bool) (thi tlo : Nat) (port : Int)
    (hP : PIs n xs 0 (pkG v6 pr sv shi slo dv dhi dlo sp dp ttl fl false apr asv ashi aslo adv adhi adlo asp adp sz)) (hs : s = 0 ∨ s = 1) (p1 : 0 ≤ port) (p2 : port ≤ 65535) (hbad : tv ≠ v6 ∨ Four.okA tv (thi : Int) (tlo : Int) = false) (A : Option Addr) (w : World) (hx : IsB w w.heap.size A n xs) (hn : min n0 500 = n) (hnc : n0 ≤ c) (hcm : c ≤ maxLen) :
    Calls Try.prog 3 #[.slice A n0 c, .int .i64 s, .agg #[.bool tv, .int .u64 (thi : Int), .int .u64 (tlo : Int)], .int .i64 port] w fun e w' => e = .returned (.bool true) ∧ Below w.heap.size w w' :=
  turns_addr n0 n c xs [] _ _ _ _ _ _ _ _ _ _ _ _ _ _ _ _ _ _ _ _ _ _ _ rfl s tv thi tlo port hs p1 p2 hbad A w hx hn hnc hcm hP
    (fun w hx => turn_addr n c xs [] _ _ _ _ _ _ _ _ _ _ _ _ _ _ _ _ _ _ _ _ _ _ _ rfl s tv thi tlo port hs p1 p2 hbad A w hx (by omega) hcm hP)
theorem tu_side (s : Nat) (hs : s ≤ 1) (v6 : Bool) (pr shi slo dhi dlo sp dp thi tlo port : Nat) :
    (if (s : Int) = 0 then Pkt.tuA (pr : Int) v6 (thi : Int) (tlo : Int) v6 (dhi : Int) (dlo : Int) (port : Int) (dp : Int) else Pkt.tuA (pr : Int) v6 (shi : Int) (slo : Int) v6 (thi : Int) (tlo : Int) (sp : Int) (port : Int)) =
      Pkt.tuA (pr : Int) v6 ((if s = 0 then thi else shi : Nat) : Int) ((if s = 0 then tlo else slo : Nat) : Int) v6 ((if s = 0 then dhi else thi : Nat) : Int) ((if s = 0 then dlo else tlo : Nat) : Int) ((if s = 0 then port else sp : Nat) : Int) ((if s = 0 then dp else port : Nat) : Int) := by
  have h01 : s = 0 ∨ s = 1 := by omega
  rcases h01 with rfl | rfl <;> rfl
theorem turns_four (n0 n c : Nat) (xs : List UInt8) {al e : Nat} {udp : Bool} {R : List UInt8} {slo dlo sp dp ttl fl : Nat} (h : Turn4 n xs al e udp R slo dlo sp dp ttl fl) (s : Int) (tv : Bool) (thi tlo : Nat) (port : Int) (A : Option Addr) (w : World) (hx : IsB w w.heap.size A n xs) (hn : min n0 500 = n) (hnc : n0 ≤ c) (hcm : c ≤ maxLen) :
    Calls Try.prog 3 #[.slice A n0 c, .int .i64 s, .agg #[.bool tv, .int .u64 (thi : Int), .int .u64 (tlo : Int)], .int .i64 port] w fun e w' => e = .returned (.bool true) ∧ Below w.heap.size w w' := by
  have hP := h.pis (by omega)
  by_cases hb1 : (s ≠ 0 ∧ s ≠ 1) ∨ port < 0 ∨ 65535 < port ∨ false = true
  · exact turns_error n0 n c xs _ _ _ _ _ _ _ _ _ _ _ _ _ _ _ _ _ _ _ _ _ _ _ s tv thi tlo port hP hb1 A w hx hn hnc hcm
  have hs : s = 0 ∨ s = 1 := by omega
  have p1 : 0 ≤ port := by omega
  have p2 : port ≤ 65535 := by omega
  by_cases hb2 : tv ≠ false ∨ Four.okA tv (thi : Int) (tlo : Int) = false
  · exact turns_wrong n0 n c xs _ _ _ _ _ _ _ _ _ _ _ _ _ _ _ _ _ _ _ _ _ _ s tv thi tlo port hP hs p1 p2 hb2 A w hx hn hnc hcm
  obtain rfl : tv = false := by
    by_cases ht : tv = false
    · exact ht
    · exact absurd (.inl ht) hb2
  have hok : Four.okA false (thi : Int) (tlo : Int) = true := by
    cases ho : Four.okA false (thi : Int) (tlo : Int) with
    | true => rfl
    | false => exact absurd (.inr ho) hb2
  obtain ⟨t0, t1⟩ := Pkt.okA_four hok
  obtain rfl : thi = 0 := by omega
  obtain ⟨sN, rfl⟩ : ∃ k : Nat, s = (k : Int) := ⟨s.toNat, by omega⟩
  obtain ⟨pN, rfl⟩ : ∃ k : Nat, port = (k : Int) := ⟨port.toNat, by omega⟩
  have hsN : sN ≤ 1 := by omega
  obtain ⟨s1, s2, s3, s4, s5, s6, s7, s8, s9⟩ := h.sizes
  obtain ⟨u1, u2⟩ := h.up.port_le
  obtain ⟨was, hw⟩ : ∃ was, (if sN = 0 then slo else dlo) = was := ⟨_, rfl⟩
  obtain ⟨wp, hwp⟩ : ∃ wp, (if sN = 0 then sp else dp) = wp := ⟨_, rfl⟩
  have bw : was < 4294967296 := by rw [← hw]; split <;> omega
  have bp : wp ≤ 65535 := by rw [← hwp]; split <;> omega
  have h2 := h.turn sN tlo pN hsN (by omega) (by omega)
  rw [hw] at h2
  have hP2 := h2.pis (by omega)
  have h3 := h2.turn sN was wp hsN bw bp
  have hT := fun w hx => turn4_any h (by omega) sN tlo pN was hsN hw (by omega) (by omega) A c w hx (by omega) hcm
  have hTb := fun A c w hx hnc hcm => turn4_any h2 (by omega) sN was wp _ hsN rfl bw bp A c w hx hnc hcm
  have hP3 := h3.pis (by omega)
  have e1 : (if sN = 0 then was else if sN = 0 then tlo else slo) = slo := by
    have h01 : sN = 0 ∨ sN = 1 := by omega
    rcases h01 with rfl | rfl
    · exact hw.symm
    · rfl
  have e2 : (if sN = 0 then if sN = 0 then dlo else tlo else was) = dlo := by
    have h01 : sN = 0 ∨ sN = 1 := by omega
    rcases h01 with rfl | rfl
    · rfl
    · exact hw.symm
  have e3 : (if sN = 0 then wp else if sN = 0 then pN else sp) = sp := by
    have h01 : sN = 0 ∨ sN = 1 := by omega
    rcases h01 with rfl | rfl
    · exact hwp.symm
    · rfl
  have e4 : (if sN = 0 then if sN = 0 then dp else pN else wp) = dp := by
    have h01 : sN = 0 ∨ sN = 1 := by omega
    rcases h01 with rfl | rfl
    · rfl
    · exact hwp.symm
  rw [e1, e2, e3, e4] at hP3
  have hq := tu_side sN hsN false (prN udp) 0 slo 0 dlo sp dp 0 tlo pN
  rw [show (if sN = 0 then 0 else 0) = 0 from by split <;> rfl] at hq
  exact turns_ok n0 n c al al xs _ _ false (prN udp) 0 slo 0 dlo sp dp ttl fl sN 0 tlo pN 0 was wp 0 _ 0 _ _ _ A w hx hn hnc hcm hsN (by omega) hok (by omega) h2.ok.len h3.ok.len (by split <;> rfl) hw hwp hq hP hP2 hP3 hT hTb
theorem turns_six (n0 n c : Nat) (xs : List UInt8) {acc : List (Int × List UInt8)} {e : Nat} {udp : Bool} {R : List UInt8} {shi slo dhi dlo sp dp ttl fl : Nat} (h : Turn6 n xs acc e udp R shi slo dhi dlo sp dp ttl fl) (s : Int) (tv : Bool) (thi tlo : Nat) (b1 : thi < 18446744073709551616) (b2 : tlo < 18446744073709551616) (port : Int) (A : Option Addr) (w : World) (hx : IsB w w.heap.size A n xs) (hn : min n0 500 = n) (hnc : n0 ≤ c) (hcm : c ≤ maxLen) :
    Calls Try.prog 3 #[.slice A n0 c, .int .i64 s, .agg #[.bool tv, .int .u64 (thi : Int), .int .u64 (tlo : Int)], .int .i64 port] w fun e w' => e = .returned (.bool true) ∧ Below w.heap.size w w' := by
  have hP := h.pis (by omega)
  by_cases hb1 : (s ≠ 0 ∧ s ≠ 1) ∨ port < 0 ∨ 65535 < port ∨ false = true
  · exact turns_error n0 n c xs _ _ _ _ _ _ _ _ _ _ _ _ _ _ _ _ _ _ _ _ _ _ _ s tv thi tlo port hP hb1 A w hx hn hnc hcm
  have hs : s = 0 ∨ s = 1 := by omega
  have p1 : 0 ≤ port := by omega
  have p2 : port ≤ 65535 := by omega
  by_cases hb2 : tv ≠ true ∨ Four.okA tv (thi : Int) (tlo : Int) = false
  · exact turns_wrong n0 n c xs _ _ _ _ _ _ _ _ _ _ _ _ _ _ _ _ _ _ _ _ _ _ s tv thi tlo port hP hs p1 p2 hb2 A w hx hn hnc hcm
  obtain rfl : tv = true := by
    by_cases ht : tv = true
    · exact ht
    · exact absurd (.inl ht) hb2
  obtain ⟨sN, rfl⟩ : ∃ k : Nat, s = (k : Int) := ⟨s.toNat, by omega⟩
  obtain ⟨pN, rfl⟩ : ∃ k : Nat, port = (k : Int) := ⟨port.toNat, by omega⟩
  have hsN : sN ≤ 1 := by omega
  obtain ⟨s1, s2, s3, s4, s5, s6, s7, s8, s9⟩ := h.sizes
  obtain ⟨u1, u2⟩ := h.up.port_le
  obtain ⟨whi, hwh⟩ : ∃ was, (if sN = 0 then shi else dhi) = was := ⟨_, rfl⟩
  obtain ⟨wlo, hwl⟩ : ∃ was, (if sN = 0 then slo else dlo) = was := ⟨_, rfl⟩
  obtain ⟨wp, hwp⟩ : ∃ wp, (if sN = 0 then sp else dp) = wp := ⟨_, rfl⟩
  have bw1 : whi < 18446744073709551616 := by rw [← hwh]; split <;> omega
  have bw2 : wlo < 18446744073709551616 := by rw [← hwl]; split <;> omega
  have bp : wp ≤ 65535 := by rw [← hwp]; split <;> omega
  have h2 := h.turn sN thi tlo pN hsN b1 b2 (by omega)
  rw [hwh, hwl] at h2
  have hRl := (turnR_get udp R sN pN (splitN whi 4 ++ splitN wlo 4) (splitN thi 4 ++ splitN tlo 4) hsN h.up.len).1
  obtain ⟨R2, hR2⟩ : ∃ R2, turnR udp R sN pN (splitN whi 4 ++ splitN wlo 4) (splitN thi 4 ++ splitN tlo 4) = R2 := ⟨_, rfl⟩
  rw [hR2] at h2 hRl
  have hP2 := h2.pis (by omega)
  have h3 := h2.turn sN whi wlo wp hsN bw1 bw2 bp
  have hR3l : (turnR udp R2 sN wp (splitN (if sN = 0 then if sN = 0 then thi else shi else if sN = 0 then dhi else thi) 4 ++ splitN (if sN = 0 then if sN = 0 then tlo else slo else if sN = 0 then dlo else tlo) 4) (splitN whi 4 ++ splitN wlo 4)).length = R2.length := (turnR_get udp R2 sN wp _ _ hsN h2.up.len).1
  have hT := fun w hx => turn6_any h (by omega) sN thi tlo pN whi wlo hsN hwh hwl b1 b2 (by omega) A c w hx (by omega) hcm
  have hTb := fun A c w hx hnc hcm => turn6_any h2 (by omega) sN whi wlo wp _ _ hsN rfl rfl bw1 bw2 bp A c w hx hnc hcm
  have hP3 := h3.pis (by omega)
  have two : ∀ a b t wv : Nat, (if sN = 0 then a else b) = wv → (if sN = 0 then wv else if sN = 0 then t else a) = a ∧ (if sN = 0 then if sN = 0 then b else t else wv) = b := by
    intro a b t wv hv
    have h01 : sN = 0 ∨ sN = 1 := by omega
    rcases h01 with rfl | rfl
    · exact ⟨hv.symm, rfl⟩
    · exact ⟨rfl, hv.symm⟩
  rw [(two shi dhi thi whi hwh).1, (two shi dhi thi whi hwh).2, (two slo dlo tlo wlo hwl).1, (two slo dlo tlo wlo hwl).2, (two sp dp pN wp hwp).1, (two sp dp pN wp hwp).2, hR3l, hRl] at hP3
  rw [hRl] at hP2
  have hq := tu_side sN hsN true (prN udp) shi slo dhi dlo sp dp thi tlo pN
  exact turns_ok n0 n c (e + R.length) (e + R.length) xs _ _ true (prN udp) shi slo dhi dlo sp dp ttl fl sN thi tlo pN whi wlo wp _ _ _ _ _ _ A w hx hn hnc hcm hsN (by omega) rfl (by omega) h2.ok.len (h3.ok.len.trans (by rw [hRl])) hwh hwl hwp hq hP hP2 hP3 hT hTb
theorem turns_any (n0 n c : Nat) (xs : List UInt8) (s : Int) (tv : Bool) (thi tlo : Nat) (b1 : thi < 18446744073709551616) (b2 : tlo < 18446744073709551616) (port : Int) (A : Option Addr) (w : World) (hx : IsB w w.heap.size A n xs) (hn : min n0 500 = n) (hnc : n0 ≤ c) (hcm : c ≤ maxLen) :
    Calls Try.prog 3 #[.slice A n0 c, .int .i64 s, .agg #[.bool tv, .int .u64 (thi : Int), .int .u64 (tlo : Int)], .int .i64 port] w fun e w' => e = .returned (.bool true) ∧ Below w.heap.size w w' := by
  rcases pkt_cases n xs hx.1 (by omega) with ⟨K, hK, hP⟩ | ⟨y, hP, _, _, _, _, _, _, _, _, _, _, _, _, _, _, _, _, _, _, _, _, _, _, _, rfl⟩ | ⟨al, e, udp, R, slo, dlo, sp, dp, ttl, fl, h⟩ | ⟨acc, e, udp, R, shi, slo, dhi, dlo, sp, dp, ttl, fl, h⟩
  · exact turns_bad n0 n c xs [] _ K hK s tv thi tlo port A w hx hn hnc hcm hP (fun w hx => turn_bad n c K xs [] _ hK s tv thi tlo port A w hx (by omega) hcm hP)
  · exact turns_error n0 n c xs _ _ _ _ _ _ _ _ _ _ _ _ _ _ _ _ _ _ _ _ _ _ _ s tv thi tlo port hP (.inr (.inr (.inr rfl))) A w hx hn hnc hcm
  · exact turns_four n0 n c xs h s tv thi tlo port A w hx hn hnc hcm
  · exact turns_six n0 n c xs h s tv thi tlo b1 b2 port A w hx hn hnc hcm
theorem turns_walk (A : Option Addr) (n0 c : Nat) (xs : List UInt8) (s : Int) (tv : Bool) (thi tlo : Int) (port : Int) (w : World) (hx : IsB w w.heap.size A n0 xs) (hnc : n0 ≤ c) (hcm : c ≤ maxLen) (_h1 : (Lit.int .i64 s).wf = true) (h2 : (Lit.int .u64 thi).wf = true) (h3 : (Lit.int .u64 tlo).wf = true) (_h4 : (Lit.int .i64 port).wf = true) :
    Calls Try.prog 3 #[.slice A n0 c, .int .i64 s, .agg #[.bool tv, .int .u64 thi, .int .u64 tlo], .int .i64 port] w fun e w' => e = .returned (.bool true) ∧ Below w.heap.size w w' := by
  have h2' := u64_wf h2
  have h3' := u64_wf h3
  obtain ⟨a, rfl⟩ : ∃ a : Nat, thi = (a : Int) := ⟨thi.toNat, by omega⟩
  obtain ⟨b, rfl⟩ : ∃ b : Nat, tlo = (b : Int) := ⟨tlo.toNat, by omega⟩
  exact turns_any n0 _ c _ s tv a b (by omega) (by omega) port A w (hx.take (m := min n0 500) (by omega)) rfl hnc hcm
end Nat15
end Go.Proofs.Ytfmmmjaficbchaa
