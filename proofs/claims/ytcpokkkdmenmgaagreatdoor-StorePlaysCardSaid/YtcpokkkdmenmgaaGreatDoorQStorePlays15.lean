/- conf: line: one of the lines. Conditions: words of at most 2^16 bytes. -/
import Derived.Test.YtcpokkkdmenmgaaGreatDoorQStorePlays12
import Derived.Test.YtcpokkkdmenmgaaGreatDoorQStorePlays13
import Derived.Test.YtcpokkkdmenmgaaGreatDoorQStorePlays14
import Derived.Test.YtcpokkkdmenmgaaGreatDoorQStorePlays11
import Derived.Test.YtcpokkkdmenmgaaGreatDoorQStorePlays3
import Derived.Test.YtcpokkkdmenmgaaGreatDoorQStorePlays10
namespace Go.Proofs.YtcpokkkdmenmgaaGreatDoor
open Go.RowKit Go.ChangeShapes Go.WideShapes Go.ChangeAt Go.Deep
namespace Conf18
open Addr05
set_option maxRecDepth 20000 in
set_option maxHeartbeats 8000000 in
/-- A node's line that has too few words, or too many. -/
theorem nodeF_any (ws : List (List UInt8)) (k : Nat) (hk : kindF (wd ws 0) = k) (hk1 : 1 ≤ k) (c : Cfg) (w : World) (base x cap : Nat) (A : Option Addr) (hx : IsR strv w base A ws.length ws) (hn0 : 0 < ws.length) (hbad : ws.length < leastF k ∨ mostF k < ws.length) (hR : RdAt base x w c) :
    Calls Tryz.prog 51 #[.pointer (some ⟨x, 0, none⟩), .slice A ws.length cap] w fun e w' => LineEnd (RdAt base x) base (nodeF k c ws) w w' e := by
  have hr : nodeF k c ws = .error 4 := by unfold nodeF; rw [if_pos hbad]
  rw [hr]
  have hk4 : k ≤ 4 := hk ▸ kindF_le _
  obtain ⟨b, off, rfl, hb, hc⟩ := words_at hx hn0
  have c0 := hc 0 hn0
  rw [Nat.add_zero] at c0
  have hbz : base ≤ w.heap.size := by
    obtain ⟨mb, ma, nv, vv, wv, h⟩ := hR
    have := h.cfg.hx
    have := h.xlt
    omega
  have qk := kind_any (wd ws 0) w
  rw [hk] at qk
  have i2 := idx_most k hk1 hk4
  have i3 := idx_least k hk1 hk4
  obtain ⟨n, hn⟩ : ∃ n, ws.length = n := ⟨_, rfl⟩
  rw [hn] at hn0 hbad ⊢
  obtain ⟨L, hL⟩ : ∃ L, leastF k = L := ⟨_, rfl⟩
  obtain ⟨M, hM⟩ : ∃ M, mostF k = M := ⟨_, rfl⟩
  rw [hL] at i3 hbad
  rw [hM] at i2 hbad
  have hn1 : (0 : Int) < (n : Int) := by omega
  have t : ((n : Int) < (L : Int) ∨ (M : Int) < (n : Int)) := by omega
  obtain ⟨z, hz⟩ : ∃ z, w.heap.size = z := ⟨_, rfl⟩
  rw [hz] at hbz
  clear hR hx hc hk hbad hr hL hM hn
  replace qk := hide qk
  go_enter Tryz.func51, Tryz.ntmps51
  go_upto_region 1 with fail
  apply wp_region_lit
  iterate 3 (refine wpList_plain rfl fun K hK => ?_; go_simp; refine hK _ _ ?_; clear hK K)
  refine wpList_plain rfl fun K hK => ?_
  go_simp
  refine (qk.out).mono ?_
  rintro e w ⟨rfl, rfl⟩
  go_simp
  refine hK _ _ ?_
  clear hK K
  iterate 1 (refine wpList_plain rfl fun K hK => ?_; go_simp; refine hK _ _ ?_; clear hK K)
  refine wpl_new rfl rfl 68 _ (alloc_nd _ rfl) 5 rfl (.tmp 20) rfl _ (fun _ => rfl) (fun _ => rfl) rfl (by kernel_rfl) (nd_one ⟨#[]⟩ (k : Int) (-1) 0 false 0 0) ?_
  intro w1 hg1 hb1 hz1
  rw [hz] at hg1 hb1 hz1
  refine wpList_nil ?_
  go_simp
  have hgc := blk_cell hg1
  clear qk hg1
  replace hb1 := hide hb1
  by_cases t1 : (n : Int) < (L : Int)
  · clear t
    go_wp2_with fail
    refine bodyPost_ret (v := .int .i64 4) (by simp [results, Tryz.results51, go_sem]) rfl ?_
    exact lineEnd_err (n := 4) rfl (by decide) (by rw [hz]; exact hb1.out)
  · have t2 : (M : Int) < (n : Int) := by omega
    clear t
    go_wp2_with fail
    refine bodyPost_ret (v := .int .i64 4) (by simp [results, Tryz.results51, go_sem]) rfl ?_
    exact lineEnd_err (n := 4) rfl (by decide) (by rw [hz]; exact hb1.out)
theorem four_words {α : Type} {l : List α} (h : l.length = 4) : ∃ a b c d, l = [a, b, c, d] := by
  match l, h with
  | [a, b, c, d], _ => exact ⟨a, b, c, d, rfl⟩
theorem five_words {α : Type} {l : List α} (h : l.length = 5) : ∃ a b c d e, l = [a, b, c, d, e] := by
  match l, h with
  | [a, b, c, d, e], _ => exact ⟨a, b, c, d, e, rfl⟩
theorem node_any (ws : List (List UInt8)) (k : Nat) (hk : kindF (wd ws 0) = k) (hk1 : 1 ≤ k) (c : Cfg) (w : World) (base x cap : Nat) (A : Option Addr) (hx : IsR strv w base A ws.length ws) (hn0 : 0 < ws.length) (hl : ∀ y ∈ ws, y.length ≤ 65536) (hm : MaxAt w) (hs : c.small 4096) (hR : RdAt base x w c) :
    Calls Tryz.prog 51 #[.pointer (some ⟨x, 0, none⟩), .slice A ws.length cap] w fun e w' => LineEnd (RdAt base x) base (nodeF k c ws) w w' e := by
  by_cases hbad : ws.length < leastF k ∨ mostF k < ws.length
  · exact nodeF_any ws k hk hk1 c w base x cap A hx hn0 hbad hR
  have hk4 : k ≤ 4 := hk ▸ kindF_le _
  obtain ⟨b, off, rfl, hb, hc⟩ := words_at hx hn0
  have hc0 := hc 0 hn0
  have hcase : (ws.length = 2 ∧ k = 1) ∨ (ws.length = 3 ∧ 2 ≤ k ∧ k ≤ 3) ∨ (ws.length = 4 ∧ 2 ≤ k ∧ k ≤ 3) ∨ (ws.length = 5 ∧ k = 4) := by
    unfold leastF mostF at hbad
    rcases (by omega : k = 1 ∨ k = 2 ∨ k = 3 ∨ k = 4) with rfl | rfl | rfl | rfl <;> simp at hbad <;> omega
  rcases hcase with ⟨h1, rfl⟩ | ⟨h1, h2, h3⟩ | ⟨h1, h2, h3⟩ | ⟨h1, rfl⟩
  · obtain ⟨y0, y1, rfl⟩ := two_words h1
    exact node2_any y0 y1 hk c w base x b off cap hb hc0 (hc 1 (by simp)) (hl _ (by simp)) (hl _ (by simp)) hm hs hR
  · obtain ⟨y0, y1, y2, rfl⟩ := three_words h1
    exact node3_any y0 y1 y2 k h2 h3 hk c w base x b off cap hb hc0 (hc 1 (by simp)) (hc 2 (by simp)) (hl _ (by simp)) (hl _ (by simp)) (hl _ (by simp)) hm hs hR
  · obtain ⟨y0, y1, y2, y3, rfl⟩ := four_words h1
    exact node4_any y0 y1 y2 y3 k h2 h3 hk c w base x b off cap hb hc0 (hc 1 (by simp)) (hc 2 (by simp)) (hc 3 (by simp)) (hl _ (by simp)) (hl _ (by simp)) (hl _ (by simp)) (hl _ (by simp)) hm hs hR
  · obtain ⟨y0, y1, y2, y3, y4, rfl⟩ := five_words h1
    exact node5_any y0 y1 y2 y3 y4 hk c w base x b off cap hb hc0 (hc 1 (by simp)) (hc 2 (by simp)) (hc 3 (by simp)) (hc 4 (by simp)) (hl _ (by simp)) (hl _ (by simp)) (hl _ (by simp)) (hl _ (by simp)) (hl _ (by simp)) hm hs hR

set_option maxRecDepth 20000 in
set_option maxHeartbeats 8000000 in
theorem line_any (ws : List (List UInt8)) (c : Cfg) (w : World) (base x cap : Nat) (A : Option Addr) (hx : IsR strv w base A ws.length ws) (hn0 : 0 < ws.length) (hcap : ws.length ≤ cap) (hcm : cap ≤ maxLen) (hl : ∀ y ∈ ws, y.length ≤ 65536) (hm : MaxAt w) (hs : c.small 4096) (hR : RdAt base x w c) :
    Calls Tryz.prog 33 #[.pointer (some ⟨x, 0, none⟩), .slice A ws.length cap] w fun e w' => LineEnd (RdAt base x) base (lineF c ws) w w' e := by
  obtain ⟨r, hr⟩ : ∃ r, lineF c ws = r := ⟨_, rfl⟩
  rw [hr]
  obtain ⟨b, off, rfl, hb, hc⟩ := words_at hx hn0
  have c0 := hc 0 hn0
  rw [Nat.add_zero] at c0
  have qn := fun k hk hk1 => node_any ws k hk hk1 c w base x cap _ hx hn0 hl hm hs hR
  have qf := factor_any ws c w base x cap _ hx hl hR
  have qd := domain_any ws c w base x cap _ hx hR
  have qs := self_any ws c w base x cap _ hx hl hm hR
  have qv := vip_any ws c w base x cap _ hx hcap hcm hl hm hs hR
  have qw := view_any ws c w base x cap _ hx hl hm hs hR
  obtain ⟨n, hn⟩ : ∃ n, ws.length = n := ⟨_, rfl⟩
  rw [hn] at qn qf qd qs qv qw hn0 ⊢
  unfold lineF at hr
  obtain ⟨y, hy⟩ : ∃ y, wd ws 0 = y := ⟨_, rfl⟩
  rw [hy] at hr c0 qn
  have hn1 : (0 : Int) < (n : Int) := by omega
  have t0 := eqw y [102, 97, 99, 116, 111, 114]
  have t1 := eqw y [100, 111, 109, 97, 105, 110]
  have t2 := eqw y [115, 101, 108, 102]
  have t3 := eqw y [118, 105, 112]
  have t4 := eqw y [118, 105, 101, 119]
  have t5 := eqw y [108, 101, 118, 101, 108]
  have t6 := eqw y [122, 111, 110, 101]
  have t7 := eqw y [114, 97, 99, 107]
  have t8 := eqw y [104, 111, 115, 116]
  clear hx hc hn hl hm hs hR hy hcap hcm
  by_cases h0 : y = wFactor
  · rw [decide_eq_true (show y = [102, 97, 99, 116, 111, 114] from h0)] at t0
    rw [decide_eq_false (show ¬ y = [100, 111, 109, 97, 105, 110] from fun e => by rw [show y = [102, 97, 99, 116, 111, 114] from h0] at e; revert e; decide)] at t1
    rw [decide_eq_false (show ¬ y = [115, 101, 108, 102] from fun e => by rw [show y = [102, 97, 99, 116, 111, 114] from h0] at e; revert e; decide)] at t2
    rw [decide_eq_false (show ¬ y = [118, 105, 112] from fun e => by rw [show y = [102, 97, 99, 116, 111, 114] from h0] at e; revert e; decide)] at t3
    rw [decide_eq_false (show ¬ y = [118, 105, 101, 119] from fun e => by rw [show y = [102, 97, 99, 116, 111, 114] from h0] at e; revert e; decide)] at t4
    rw [decide_eq_false (show ¬ y = [108, 101, 118, 101, 108] from fun e => by rw [show y = [102, 97, 99, 116, 111, 114] from h0] at e; revert e; decide)] at t5
    rw [decide_eq_false (show ¬ y = [122, 111, 110, 101] from fun e => by rw [show y = [102, 97, 99, 116, 111, 114] from h0] at e; revert e; decide)] at t6
    rw [decide_eq_false (show ¬ y = [114, 97, 99, 107] from fun e => by rw [show y = [102, 97, 99, 116, 111, 114] from h0] at e; revert e; decide)] at t7
    rw [decide_eq_false (show ¬ y = [104, 111, 115, 116] from fun e => by rw [show y = [102, 97, 99, 116, 111, 114] from h0] at e; revert e; decide)] at t8
    rw [if_pos h0] at hr
    clear h0
    replace hr := hide hr
    replace qn := hide qn
    replace qf := hide qf
    replace qd := hide qd
    replace qs := hide qs
    replace qv := hide qv
    replace qw := hide qw
    go_enter Tryz.func33, Tryz.ntmps33
    go_wp2_with fail
    refine (qf.out).mono ?_
    rintro e w1 (⟨m, hr1, h0, rfl, hb1⟩ | ⟨c1, hr1, rfl, hP, hb1⟩)
    · replace hb1 := hide hb1
      replace hr1 := hide hr1
      go_wp2_with fail
      go_ret
      exact .inl ⟨m, hr.out.symm.trans hr1.out, h0, rfl, hb1.out⟩
    · replace hb1 := hide hb1
      replace hr1 := hide hr1
      replace hP := hide hP
      go_wp2_with fail
      go_ret
      exact .inr ⟨c1, hr.out.symm.trans hr1.out, rfl, hP.out, hb1.out⟩
  rw [decide_eq_false (show ¬ y = [102, 97, 99, 116, 111, 114] from h0)] at t0
  rw [if_neg h0] at hr
  by_cases h1 : y = wDomain
  · rw [decide_eq_true (show y = [100, 111, 109, 97, 105, 110] from h1)] at t1
    rw [decide_eq_false (show ¬ y = [115, 101, 108, 102] from fun e => by rw [show y = [100, 111, 109, 97, 105, 110] from h1] at e; revert e; decide)] at t2
    rw [decide_eq_false (show ¬ y = [118, 105, 112] from fun e => by rw [show y = [100, 111, 109, 97, 105, 110] from h1] at e; revert e; decide)] at t3
    rw [decide_eq_false (show ¬ y = [118, 105, 101, 119] from fun e => by rw [show y = [100, 111, 109, 97, 105, 110] from h1] at e; revert e; decide)] at t4
    rw [decide_eq_false (show ¬ y = [108, 101, 118, 101, 108] from fun e => by rw [show y = [100, 111, 109, 97, 105, 110] from h1] at e; revert e; decide)] at t5
    rw [decide_eq_false (show ¬ y = [122, 111, 110, 101] from fun e => by rw [show y = [100, 111, 109, 97, 105, 110] from h1] at e; revert e; decide)] at t6
    rw [decide_eq_false (show ¬ y = [114, 97, 99, 107] from fun e => by rw [show y = [100, 111, 109, 97, 105, 110] from h1] at e; revert e; decide)] at t7
    rw [decide_eq_false (show ¬ y = [104, 111, 115, 116] from fun e => by rw [show y = [100, 111, 109, 97, 105, 110] from h1] at e; revert e; decide)] at t8
    rw [if_pos h1] at hr
    clear h1
    replace hr := hide hr
    replace qn := hide qn
    replace qf := hide qf
    replace qd := hide qd
    replace qs := hide qs
    replace qv := hide qv
    replace qw := hide qw
    go_enter Tryz.func33, Tryz.ntmps33
    go_wp2_with fail
    refine (qd.out).mono ?_
    rintro e w1 (⟨m, hr1, h0, rfl, hb1⟩ | ⟨c1, hr1, rfl, hP, hb1⟩)
    · replace hb1 := hide hb1
      replace hr1 := hide hr1
      go_wp2_with fail
      go_ret
      exact .inl ⟨m, hr.out.symm.trans hr1.out, h0, rfl, hb1.out⟩
    · replace hb1 := hide hb1
      replace hr1 := hide hr1
      replace hP := hide hP
      go_wp2_with fail
      go_ret
      exact .inr ⟨c1, hr.out.symm.trans hr1.out, rfl, hP.out, hb1.out⟩
  rw [decide_eq_false (show ¬ y = [100, 111, 109, 97, 105, 110] from h1)] at t1
  rw [if_neg h1] at hr
  by_cases h2 : y = wSelf
  · rw [decide_eq_true (show y = [115, 101, 108, 102] from h2)] at t2
    rw [decide_eq_false (show ¬ y = [118, 105, 112] from fun e => by rw [show y = [115, 101, 108, 102] from h2] at e; revert e; decide)] at t3
    rw [decide_eq_false (show ¬ y = [118, 105, 101, 119] from fun e => by rw [show y = [115, 101, 108, 102] from h2] at e; revert e; decide)] at t4
    rw [decide_eq_false (show ¬ y = [108, 101, 118, 101, 108] from fun e => by rw [show y = [115, 101, 108, 102] from h2] at e; revert e; decide)] at t5
    rw [decide_eq_false (show ¬ y = [122, 111, 110, 101] from fun e => by rw [show y = [115, 101, 108, 102] from h2] at e; revert e; decide)] at t6
    rw [decide_eq_false (show ¬ y = [114, 97, 99, 107] from fun e => by rw [show y = [115, 101, 108, 102] from h2] at e; revert e; decide)] at t7
    rw [decide_eq_false (show ¬ y = [104, 111, 115, 116] from fun e => by rw [show y = [115, 101, 108, 102] from h2] at e; revert e; decide)] at t8
    rw [if_pos h2] at hr
    clear h2
    replace hr := hide hr
    replace qn := hide qn
    replace qf := hide qf
    replace qd := hide qd
    replace qs := hide qs
    replace qv := hide qv
    replace qw := hide qw
    go_enter Tryz.func33, Tryz.ntmps33
    go_wp2_with fail
    refine (qs.out).mono ?_
    rintro e w1 (⟨m, hr1, h0, rfl, hb1⟩ | ⟨c1, hr1, rfl, hP, hb1⟩)
    · replace hb1 := hide hb1
      replace hr1 := hide hr1
      go_wp2_with fail
      go_ret
      exact .inl ⟨m, hr.out.symm.trans hr1.out, h0, rfl, hb1.out⟩
    · replace hb1 := hide hb1
      replace hr1 := hide hr1
      replace hP := hide hP
      go_wp2_with fail
      go_ret
      exact .inr ⟨c1, hr.out.symm.trans hr1.out, rfl, hP.out, hb1.out⟩
  rw [decide_eq_false (show ¬ y = [115, 101, 108, 102] from h2)] at t2
  rw [if_neg h2] at hr
  by_cases h3 : y = wVip
  · rw [decide_eq_true (show y = [118, 105, 112] from h3)] at t3
    rw [decide_eq_false (show ¬ y = [118, 105, 101, 119] from fun e => by rw [show y = [118, 105, 112] from h3] at e; revert e; decide)] at t4
    rw [decide_eq_false (show ¬ y = [108, 101, 118, 101, 108] from fun e => by rw [show y = [118, 105, 112] from h3] at e; revert e; decide)] at t5
    rw [decide_eq_false (show ¬ y = [122, 111, 110, 101] from fun e => by rw [show y = [118, 105, 112] from h3] at e; revert e; decide)] at t6
    rw [decide_eq_false (show ¬ y = [114, 97, 99, 107] from fun e => by rw [show y = [118, 105, 112] from h3] at e; revert e; decide)] at t7
    rw [decide_eq_false (show ¬ y = [104, 111, 115, 116] from fun e => by rw [show y = [118, 105, 112] from h3] at e; revert e; decide)] at t8
    rw [if_pos h3] at hr
    clear h3
    replace hr := hide hr
    replace qn := hide qn
    replace qf := hide qf
    replace qd := hide qd
    replace qs := hide qs
    replace qv := hide qv
    replace qw := hide qw
    go_enter Tryz.func33, Tryz.ntmps33
    go_wp2_with fail
    refine (qv.out).mono ?_
    rintro e w1 (⟨m, hr1, h0, rfl, hb1⟩ | ⟨c1, hr1, rfl, hP, hb1⟩)
    · replace hb1 := hide hb1
      replace hr1 := hide hr1
      go_wp2_with fail
      go_ret
      exact .inl ⟨m, hr.out.symm.trans hr1.out, h0, rfl, hb1.out⟩
    · replace hb1 := hide hb1
      replace hr1 := hide hr1
      replace hP := hide hP
      go_wp2_with fail
      go_ret
      exact .inr ⟨c1, hr.out.symm.trans hr1.out, rfl, hP.out, hb1.out⟩
  rw [decide_eq_false (show ¬ y = [118, 105, 112] from h3)] at t3
  rw [if_neg h3] at hr
  by_cases h4 : y = wView
  · rw [decide_eq_true (show y = [118, 105, 101, 119] from h4)] at t4
    rw [decide_eq_false (show ¬ y = [108, 101, 118, 101, 108] from fun e => by rw [show y = [118, 105, 101, 119] from h4] at e; revert e; decide)] at t5
    rw [decide_eq_false (show ¬ y = [122, 111, 110, 101] from fun e => by rw [show y = [118, 105, 101, 119] from h4] at e; revert e; decide)] at t6
    rw [decide_eq_false (show ¬ y = [114, 97, 99, 107] from fun e => by rw [show y = [118, 105, 101, 119] from h4] at e; revert e; decide)] at t7
    rw [decide_eq_false (show ¬ y = [104, 111, 115, 116] from fun e => by rw [show y = [118, 105, 101, 119] from h4] at e; revert e; decide)] at t8
    rw [if_pos h4] at hr
    clear h4
    replace hr := hide hr
    replace qn := hide qn
    replace qf := hide qf
    replace qd := hide qd
    replace qs := hide qs
    replace qv := hide qv
    replace qw := hide qw
    go_enter Tryz.func33, Tryz.ntmps33
    go_wp2_with fail
    refine (qw.out).mono ?_
    rintro e w1 (⟨m, hr1, h0, rfl, hb1⟩ | ⟨c1, hr1, rfl, hP, hb1⟩)
    · replace hb1 := hide hb1
      replace hr1 := hide hr1
      go_wp2_with fail
      go_ret
      exact .inl ⟨m, hr.out.symm.trans hr1.out, h0, rfl, hb1.out⟩
    · replace hb1 := hide hb1
      replace hr1 := hide hr1
      replace hP := hide hP
      go_wp2_with fail
      go_ret
      exact .inr ⟨c1, hr.out.symm.trans hr1.out, rfl, hP.out, hb1.out⟩
  rw [decide_eq_false (show ¬ y = [118, 105, 101, 119] from h4)] at t4
  rw [if_neg h4] at hr
  by_cases h5 : y = wLevel
  · rw [decide_eq_true (show y = [108, 101, 118, 101, 108] from h5)] at t5
    rw [decide_eq_false (show ¬ y = [122, 111, 110, 101] from fun e => by rw [show y = [108, 101, 118, 101, 108] from h5] at e; revert e; decide)] at t6
    rw [decide_eq_false (show ¬ y = [114, 97, 99, 107] from fun e => by rw [show y = [108, 101, 118, 101, 108] from h5] at e; revert e; decide)] at t7
    rw [decide_eq_false (show ¬ y = [104, 111, 115, 116] from fun e => by rw [show y = [108, 101, 118, 101, 108] from h5] at e; revert e; decide)] at t8
    have hk : kindF y = 1 := by rw [h5]; decide
    rw [hk] at hr
    rw [if_pos (by decide)] at hr
    clear h5
    have q := qn 1 hk (by decide)
    clear qn
    have qn := q
    clear q hk
    replace hr := hide hr
    replace qn := hide qn
    replace qf := hide qf
    replace qd := hide qd
    replace qs := hide qs
    replace qv := hide qv
    replace qw := hide qw
    go_enter Tryz.func33, Tryz.ntmps33
    go_wp2_with fail
    refine (qn.out).mono ?_
    rintro e w1 (⟨m, hr1, h0, rfl, hb1⟩ | ⟨c1, hr1, rfl, hP, hb1⟩)
    · replace hb1 := hide hb1
      replace hr1 := hide hr1
      go_wp2_with fail
      go_ret
      exact .inl ⟨m, hr.out.symm.trans hr1.out, h0, rfl, hb1.out⟩
    · replace hb1 := hide hb1
      replace hr1 := hide hr1
      replace hP := hide hP
      go_wp2_with fail
      go_ret
      exact .inr ⟨c1, hr.out.symm.trans hr1.out, rfl, hP.out, hb1.out⟩
  rw [decide_eq_false (show ¬ y = [108, 101, 118, 101, 108] from h5)] at t5
  by_cases h6 : y = wZone
  · rw [decide_eq_true (show y = [122, 111, 110, 101] from h6)] at t6
    rw [decide_eq_false (show ¬ y = [114, 97, 99, 107] from fun e => by rw [show y = [122, 111, 110, 101] from h6] at e; revert e; decide)] at t7
    rw [decide_eq_false (show ¬ y = [104, 111, 115, 116] from fun e => by rw [show y = [122, 111, 110, 101] from h6] at e; revert e; decide)] at t8
    have hk : kindF y = 2 := by rw [h6]; decide
    rw [hk] at hr
    rw [if_pos (by decide)] at hr
    clear h6
    have q := qn 2 hk (by decide)
    clear qn
    have qn := q
    clear q hk
    replace hr := hide hr
    replace qn := hide qn
    replace qf := hide qf
    replace qd := hide qd
    replace qs := hide qs
    replace qv := hide qv
    replace qw := hide qw
    go_enter Tryz.func33, Tryz.ntmps33
    go_wp2_with fail
    refine (qn.out).mono ?_
    rintro e w1 (⟨m, hr1, h0, rfl, hb1⟩ | ⟨c1, hr1, rfl, hP, hb1⟩)
    · replace hb1 := hide hb1
      replace hr1 := hide hr1
      go_wp2_with fail
      go_ret
      exact .inl ⟨m, hr.out.symm.trans hr1.out, h0, rfl, hb1.out⟩
    · replace hb1 := hide hb1
      replace hr1 := hide hr1
      replace hP := hide hP
      go_wp2_with fail
      go_ret
      exact .inr ⟨c1, hr.out.symm.trans hr1.out, rfl, hP.out, hb1.out⟩
  rw [decide_eq_false (show ¬ y = [122, 111, 110, 101] from h6)] at t6
  by_cases h7 : y = wRack
  · rw [decide_eq_true (show y = [114, 97, 99, 107] from h7)] at t7
    rw [decide_eq_false (show ¬ y = [104, 111, 115, 116] from fun e => by rw [show y = [114, 97, 99, 107] from h7] at e; revert e; decide)] at t8
    have hk : kindF y = 3 := by rw [h7]; decide
    rw [hk] at hr
    rw [if_pos (by decide)] at hr
    clear h7
    have q := qn 3 hk (by decide)
    clear qn
    have qn := q
    clear q hk
    replace hr := hide hr
    replace qn := hide qn
    replace qf := hide qf
    replace qd := hide qd
    replace qs := hide qs
    replace qv := hide qv
    replace qw := hide qw
    go_enter Tryz.func33, Tryz.ntmps33
    go_wp2_with fail
    refine (qn.out).mono ?_
    rintro e w1 (⟨m, hr1, h0, rfl, hb1⟩ | ⟨c1, hr1, rfl, hP, hb1⟩)
    · replace hb1 := hide hb1
      replace hr1 := hide hr1
      go_wp2_with fail
      go_ret
      exact .inl ⟨m, hr.out.symm.trans hr1.out, h0, rfl, hb1.out⟩
    · replace hb1 := hide hb1
      replace hr1 := hide hr1
      replace hP := hide hP
      go_wp2_with fail
      go_ret
      exact .inr ⟨c1, hr.out.symm.trans hr1.out, rfl, hP.out, hb1.out⟩
  rw [decide_eq_false (show ¬ y = [114, 97, 99, 107] from h7)] at t7
  by_cases h8 : y = wHost
  · rw [decide_eq_true (show y = [104, 111, 115, 116] from h8)] at t8
    have hk : kindF y = 4 := by rw [h8]; decide
    rw [hk] at hr
    rw [if_pos (by decide)] at hr
    clear h8
    have q := qn 4 hk (by decide)
    clear qn
    have qn := q
    clear q hk
    replace hr := hide hr
    replace qn := hide qn
    replace qf := hide qf
    replace qd := hide qd
    replace qs := hide qs
    replace qv := hide qv
    replace qw := hide qw
    go_enter Tryz.func33, Tryz.ntmps33
    go_wp2_with fail
    refine (qn.out).mono ?_
    rintro e w1 (⟨m, hr1, h0, rfl, hb1⟩ | ⟨c1, hr1, rfl, hP, hb1⟩)
    · replace hb1 := hide hb1
      replace hr1 := hide hr1
      go_wp2_with fail
      go_ret
      exact .inl ⟨m, hr.out.symm.trans hr1.out, h0, rfl, hb1.out⟩
    · replace hb1 := hide hb1
      replace hr1 := hide hr1
      replace hP := hide hP
      go_wp2_with fail
      go_ret
      exact .inr ⟨c1, hr.out.symm.trans hr1.out, rfl, hP.out, hb1.out⟩
  rw [decide_eq_false (show ¬ y = [104, 111, 115, 116] from h8)] at t8
  have hk : kindF y = 0 := by unfold kindF; rw [if_neg h5, if_neg h6, if_neg h7, if_neg h8]
  rw [hk, if_neg (by decide)] at hr
  have hbl : Below w.heap.size w w := Below.refl _ _
  clear h0 h1 h2 h3 h4 h5 h6 h7 h8 hk
  replace hr := hide hr
  replace qn := hide qn
  replace qf := hide qf
  replace qd := hide qd
  replace qs := hide qs
  replace qv := hide qv
  replace qw := hide qw
  replace hbl := hide hbl
  go_enter Tryz.func33, Tryz.ntmps33
  go_wp2_with fail
  go_ret
  exact lineEnd_err hr.out.symm (by decide) hbl.out
end Conf18
end Go.Proofs.YtcpokkkdmenmgaaGreatDoor
/- conf: Parse. Conditions: texts of at most 2^16 bytes; the cell of bytealg.MaxLen. -/
namespace Go.Proofs.YtcpokkkdmenmgaaGreatDoor
open Go.RowKit Go.ChangeShapes Go.WideShapes Go.ChangeAt Go.Deep
namespace Conf18
open Addr05
theorem alloc_ln (o : Oper) (h : o.op = .alloc 101) (ρ : Operand → Value) (w : World) : (execOp ρ o).run Tryz.prog w = .ok (.value (.pointer (some ⟨w.heap.size, 0, none⟩))) (w.alloc (.cells #[.int .i64 0, .slice none 0 0] 101)) := by
  obtain ⟨d, op, t, ps, af, g⟩ := o
  dsimp only at h
  subst h
  kernel_rfl
theorem ln_one (i : Int) (A : Option Addr) (n c : Nat) : (#[.int .i64 i, .slice A n c] : Array Value).all (·.oneCell') = true := all_oneCell_toArray (by
  intro u hu
  simp only [List.mem_cons, List.not_mem_nil, or_false] at hu
  rcases hu with rfl | rfl <;> rfl)
/-- The cells of a configuration. -/
def cfC (c : Cfg) (nv vv wv : Value) : Array Value :=
  #[nv, vv, wv, .int .i64 c.factor, .int .i64 c.domain, .bool c.s0.v6, .int .u64 (c.s0.hi : Int), .int .u64 (c.s0.lo : Int), .bool c.s1.v6, .int .u64 (c.s1.hi : Int), .int .u64 (c.s1.lo : Int)]
/-- A configuration as a value: its lists lie in memory. -/
structure CfgV (w : World) (base : Nat) (c : Cfg) (v : Array Value) : Prop where
  nodes : w.ownsRow base 68 7 (v.getD 0 undef) c.nodes.length (c.nodes.map ndC).flatten
  vips : w.ownsRow base 70 7 (v.getD 1 undef) c.vips.length (c.vips.map vpC).flatten
  views : w.ownsRow base 74 5 (v.getD 2 undef) c.views.length (c.views.map vwC).flatten
  arr : v = cfC c (v.getD 0 undef) (v.getD 1 undef) (v.getD 2 undef)
def zeroC : Cfg := ⟨[], [], [], 0, 0, zA, zA, false, false⟩
/-- What Parse, and the law's own reader, come to. -/
def ParseEnd (s : List UInt8) (w w' : World) (e : Ending) : Prop :=
  Below w.heap.size w w' ∧ ((∃ p, confF s = .error p ∧ e = .returned (.tuple #[.agg (cfC zeroC (.slice none 0 0) (.slice none 0 0) (.slice none 0 0)), .int .i64 (p.1 : Int), .int .i64 p.2])) ∨
    (∃ c v, confF s = .ok c ∧ e = .returned (.tuple #[.agg v, .int .i64 0, .int .i64 0]) ∧ CfgV w' w.heap.size c v ∧ c.small 4096))
theorem cfg_range {w : World} {base x : Nat} {T : TypeId} {e1 e2 nv vv wv : Value} {c : Cfg} (h : CfgAt w base x T e1 e2 c nv vv wv) : w.rangeAt x 0 (cfC c nv vv wv).toList := fun j v hv => by
  rw [Nat.zero_add, blk_cell h.blk j]
  have hj : j < 11 := by
    have := (List.getElem?_eq_some_iff.1 hv).1
    exact this
  have e : cfgA c nv vv wv e1 e2 = cfC c nv vv wv ++ #[e1, e2] := rfl
  rw [e, Array.getElem?_append_left (by exact hj)]
  simpa using hv
theorem row_below_g {w : World} {base g : Nat} {e : TypeId} {size n : Nat} {v : Value} {xs : List Value} (h : w.ownsRow base e size v n xs) (hg : g < base) : v.ownBlock = none ∨ v.ownBlock ≠ some g := .inr fun e => by
  have := (World.ownsRow.lt h _ e).1
  omega
def lnC (p : (Nat × List (List UInt8)) × Value) : List Value := [.int .i64 (p.1.1 : Int), p.2]
/-- A line where it lies. -/
theorem LnAt.at {w : World} {base : Nat} {v : Value} {L : List (Nat × List (List UInt8))} {vs : List Value} (h : LnAt w base v L vs) :
    ∃ A c, v = .slice A L.length c ∧ ∀ i, i < L.length → ∃ b off x A' c', A = some ⟨b, off, none⟩ ∧ b < w.heap.size ∧ L[i]? = some x ∧ w.cell? ⟨b, off + i * 2, none⟩ = some (.int .i64 (x.1 : Int)) ∧ w.cell? ⟨b, off + i * 2 + 1, none⟩ = some (.slice A' x.2.length c') ∧ IsR strv w w.heap.size A' x.2.length x.2 ∧ x.2.length ≤ c' ∧ c' ≤ maxLen := by
  obtain ⟨A, c, hv, h1, h2, h3⟩ := own_isv h.row
  refine ⟨A, c, hv, fun i hi => ?_⟩
  have hT : IsT lnC 2 w w.heap.size A L.length (L.zip vs) := ⟨by rw [List.length_zip, h.len, Nat.min_self], h3⟩
  obtain ⟨b, off, x, e, hb, hx, hcell⟩ := IsT.at (f := lnC) (size := 2) (fun _ => rfl) (by decide) hT hi
  obtain ⟨x, u⟩ := x
  have hx2 := List.getElem?_zip_eq_some.1 hx
  have ho := h.words i u x hx2.2 hx2.1
  obtain ⟨A', c', hu, k1, k2, k3⟩ := own_isv ho
  subst hu
  exact ⟨b, off, x, A', c', e, hb, hx2.1, hcell 0 _ rfl, hcell 1 _ rfl, k3, k1, k2⟩
theorem cf_one (nv vv wv : Value) (h1 : nv.oneCell' = true) (h2 : vv.oneCell' = true) (h3 : wv.oneCell' = true) (f d : Int) (a : Bool) (b c : Int) (a' : Bool) (b' c' : Int) : (#[nv, vv, wv, .int .i64 f, .int .i64 d, .bool a, .int .u64 b, .int .u64 c, .bool a', .int .u64 b', .int .u64 c'] : Array Value).all (·.oneCell') = true := all_oneCell_toArray (by
  intro u hu
  simp only [List.mem_cons, List.not_mem_nil, or_false] at hu
  rcases hu with rfl | rfl | rfl | rfl | rfl | rfl | rfl | rfl | rfl | rfl | rfl <;> first | rfl | assumption)
set_option maxRecDepth 20000 in
set_option maxHeartbeats 8000000 in
theorem confParse_any (s : List UInt8) (hs : s.length ≤ 65536) (w : World) (hm : MaxAt w) :
    Calls Tryz.prog 25 #[.string (str s)] w fun e w' => ParseEnd s w w' e := by
  have hsl := split_len 10 s
  have hsp := split_part 10 s
  obtain ⟨w0, hw0⟩ : ∃ w0, w.alloc (.cells #[.slice none 0 0, .slice none 0 0, .slice none 0 0, .int .i64 0, .int .i64 0, .bool false, .int .u64 0, .int .u64 0, .bool false, .int .u64 0, .int .u64 0] 34) = w0 := ⟨_, rfl⟩
  have hB0 : Below w.heap.size w w0 := hw0 ▸ (Below.refl _ _).alloc (Nat.le_refl _) _
  have hg0 : w0.heap[w.heap.size]? = some (.cells #[.slice none 0 0, .slice none 0 0, .slice none 0 0, .int .i64 0, .int .i64 0, .bool false, .int .u64 0, .int .u64 0, .bool false, .int .u64 0, .int .u64 0] 34 (0, 0)) := hw0 ▸ blk_new _ _ _
  have q := lines_any s hs w0 (hm.below hB0)
  unfold LinesEnd at q
  unfold ParseEnd
  obtain ⟨ps, hps⟩ : ∃ ps, splitL 10 s = ps := ⟨_, rfl⟩
  obtain ⟨r, hr⟩ : ∃ r, confF s = r := ⟨_, rfl⟩
  rw [hr]
  unfold confF at hr
  rw [hps] at q hsl hsp hr
  have hz0 : w.heap.size < w0.heap.size := lt_of_blk hg0
  clear hps
  replace q := hide q
  replace hsl := hide hsl
  replace hsp := hide hsp
  replace hr := hide hr
  replace hm := hide hm
  replace hB0 := hide hB0
  replace hg0 := hide hg0
  go_enter Tryz.func25, Tryz.ntmps25
  go_wp2_with fail
  refine q.out.mono ?_
  rintro e w1 ⟨hb1, ⟨i, x, h1, h2, h3, rfl⟩ | ⟨hall, v, vs, rfl, hL⟩⟩
  · have hE : Except.error (i + 1, lnBad i x) = r := by
      rw [← hr.out]
      have := lexE_some ps 0 i x h1 (by rw [Nat.zero_add]; exact h2) (fun j y hj hy => by rw [Nat.zero_add]; exact h3 j y hj hy)
      rw [Nat.zero_add] at this
      rw [this]
    have hBE : (lnBad i x != 0) = true := by rw [bne_iff_ne]; exact h2
    have hb2 := hB0.out.trans (hb1.mono (by omega))
    have hg1 := blk_below hb1 hz0 hg0.out
    clear hr h1 h2 h3 q hB0 hg0 hb1
    obtain ⟨en, hen⟩ : ∃ en, lnBad i x = en := ⟨_, rfl⟩
    rw [hen] at hE hBE ⊢
    obtain ⟨no, hno⟩ : ∃ no, i + 1 = no := ⟨_, rfl⟩
    rw [hno] at hE ⊢
    clear hen hno
    replace hE := hide hE
    replace hb2 := hide hb2
    replace hg1 := hide hg1
    go_upto_region 3 with fail
    apply wp_region_lit
    iterate 3 (refine wpList_plain rfl fun K hK => ?_; go_simp; refine hK _ _ ?_; clear hK K)
    refine wpl_st rfl 34 (.tmp 2) (.tmp 20) rfl (w.heap.size) 0 rfl (#[.slice none 0 0, .slice none 0 0, .slice none 0 0, .int .i64 0, .int .i64 0, .bool false, .int .u64 0, .int .u64 0, .bool false, .int .u64 0, .int .u64 0]) rfl hg1.out (by simp) (by kernel_rfl) (cf_one _ _ _ rfl rfl rfl _ _ _ _ _ _ _ _) fun w9 hg9 g9 => ?_
    rw [putA_whole _ _ (by rfl)] at hg9
    have hb9 : Below (w.heap.size) w w9 := (hb2.out).trans (below_grown g9 (by have := (hb2.out).size; omega) (Nat.le_refl _))
    have hld : (loadVar 34 ⟨w.heap.size, 0, none⟩).run Tryz.prog w9 = .ok (.agg (#[.slice none 0 0, .slice none 0 0, .slice none 0 0, .int .i64 0, .int .i64 0, .bool false, .int .u64 0, .int .u64 0, .bool false, .int .u64 0, .int .u64 0])) w9 := by
      simpa using run_loadVar_mid w9 (w.heap.size) 0 34 (#[.slice none 0 0, .slice none 0 0, .slice none 0 0, .int .i64 0, .int .i64 0, .bool false, .int .u64 0, .int .u64 0, .bool false, .int .u64 0, .int .u64 0]).toList _ (blk_range hg9) Tryz.underlying34 rfl (by kernel_rfl)
    clear hg9 g9
    replace hld := hide hld
    replace hb9 := hide hb9
    iterate 2 (refine wpList_plain rfl fun K hK => ?_; go_simp; refine hK _ _ ?_; clear hK K)
    refine wpList_nil ?_
    go_simp
    go_wp2_with fail
    exact bodyPost_ret (v := .tuple #[.agg #[.slice none 0 0, .slice none 0 0, .slice none 0 0, .int .i64 0, .int .i64 0, .bool false, .int .u64 0, .int .u64 0, .bool false, .int .u64 0, .int .u64 0], .int .i64 (no : Int), .int .i64 en]) (by simp [results, Tryz.results25, asAddr, hld.out, Result.andThen]) rfl ⟨hb9.out, .inl ⟨(no, en), hE.out.symm, rfl⟩⟩
  · have hlex : lexE 0 ps = none := lexE_none ps 0 (fun j y hy => by rw [Nat.zero_add]; exact hall j y hy)
    have hr2 := hr.out
    rw [hlex] at hr2
    dsimp only at hr2
    have hwd := lnA_words ps 65536 (fun x hx => Nat.le_trans (hsp.out x hx) hs) ps.length
    have hln := lnA_len ps ps.length
    have hps4 : ps.length ≤ 4096 := by
      rcases Nat.lt_or_ge 4096 ps.length with h4 | h4
      · have := hall 4096 _ (List.getElem?_eq_getElem h4)
        unfold lnBad at this
        rw [if_pos (Nat.le_refl _)] at this
        cases this
      · exact h4
    obtain ⟨L, hLL⟩ : ∃ L, lnA ps ps.length = L := ⟨_, rfl⟩
    rw [hLL] at hr2 hwd hln hL
    obtain ⟨Av, cv, rfl, hat⟩ := hL.at
    obtain ⟨n, hn⟩ : ∃ n, L.length = n := ⟨_, rfl⟩
    rw [hn] at hat hln
    have hn4 : n ≤ 4096 := by omega
    have hb2 := hB0.out.trans (hb1.mono (by omega))
    have hg1 := blk_below hb1 hz0 hg0.out
    have hm1 := hm.out.below hb2
    have hz1 := hb1.size
    rw [hn]
    clear hr q hall hlex hLL hL hln hps4 hB0 hg0 hb1 hsl hsp
    replace hr2 := hide hr2
    replace hwd := hide hwd
    replace hat := hide hat
    replace hb2 := hide hb2
    replace hg1 := hide hg1
    replace hm1 := hide hm1
    replace hn := hide hn
    have hmm := @run_makeMap Tryz.prog
    obtain ⟨base, hbase⟩ : ∃ b, w1.heap.size = b := ⟨_, rfl⟩
    obtain ⟨x, hx⟩ : ∃ x, base + 1 + 1 = x := ⟨_, rfl⟩
    obtain ⟨w2, hw2⟩ : ∃ w2, (w1.alloc (.map #[] 0)).alloc (.map #[] 0) = w2 := ⟨_, rfl⟩
    obtain ⟨w3, hw3⟩ : ∃ w3, w2.alloc (.cells #[.slice none 0 0, .slice none 0 0, .slice none 0 0, .int .i64 140, .int .i64 2, .bool false, .int .u64 0, .int .u64 0, .bool false, .int .u64 0, .int .u64 0, .map (some base), .map (some (base + 1))] 98) = w3 := ⟨_, rfl⟩
    have hb3 : Below base w1 w3 := by
      rw [← hbase]
      rw [← hw3, ← hw2]
      exact (((Below.refl _ _).alloc (Nat.le_refl _) _).alloc (by simp) _).alloc (by simp; omega) _
    have hz2 : w2.heap.size = base + 1 + 1 := by rw [← hw2, ← hbase]; simp
    have hz3 : w3.heap.size = base + 1 + 1 + 1 := by rw [← hw3, World.size_alloc, hz2]
    have hR0 : RdC w3 base (x) base (base + 1) startC (.slice none 0 0) (.slice none 0 0) (.slice none 0 0) := by
      have hg : w3.heap[x]? = some (.cells (cfgA startC (.slice none 0 0) (.slice none 0 0) (.slice none 0 0) (.map (some base)) (.map (some (base + 1)))) 98 (0, 0)) := by
        rw [← hw3, ← hx, ← hz2]
        exact blk_new _ _ _
      refine ⟨⟨hg, by omega, by decide, World.ownsRow_nil _ _ _ _, World.ownsRow_nil _ _ _ _, World.ownsRow_nil _ _ _ _⟩, Nat.le_refl _, by omega, by omega, ?_, ?_⟩
      · have h1 := MapB.made w1
        rw [hbase] at h1
        have e : seenF startC = fun _ => false := by
          funext z
          unfold seenF startC
          simp
        rw [e]
        have g1 : w1.alloc (.map #[] 0) |>.grownBy w2 none := by
          rw [← hw2]
          exact ⟨rfl, rfl, rfl, by simp, fun k hk _ => Below.heap_alloc _ _ k hk⟩
        have g2 : w2.grownBy w3 none := by
          rw [← hw3]
          exact ⟨rfl, rfl, rfl, by simp, fun k hk _ => Below.heap_alloc _ _ k hk⟩
        exact (h1.kept g1 (by simp)).kept g2 (by simp)
      · have h1 := MapI.made (w1.alloc (.map #[] 0))
        rw [hw2] at h1
        rw [show (w1.alloc (.map #[] 0)).heap.size = base + 1 by simp [hbase]] at h1
        have g2 : w2.grownBy w3 none := by
          rw [← hw3]
          exact ⟨rfl, rfl, rfl, by simp, fun k hk _ => Below.heap_alloc _ _ k hk⟩
        exact h1.kept g2 (by simp)
    replace hb3 := hide hb3
    replace hR0 := hide hR0
    go_upto_region 5 with fail
    clear hw2 hw3 hmm
    go_wp2_with fail
    go_loopw [10, 11, 30] (fun _ _ iv wr => ∃ (i : Nat) (c : Cfg), i ≤ n ∧ iv = .int .i64 (i : Int) ∧ linesF startC (L.take i) = .ok c ∧ c.small i ∧ RdAt base x wr c ∧ Below base w1 wr) (fun _ _ iv _ => n - (intOf iv).toNat)
    case atStart => exact ⟨0, startC, by omega, rfl, rfl, ⟨Nat.le_refl _, Nat.le_refl _, Nat.le_refl _⟩, ⟨_, _, _, _, _, hR0.out⟩, hb3.out⟩
    case round =>
      obtain ⟨i, c, hi, rfl, hlf, hcs, hRd, hbr⟩ := hrel
      by_cases hin : i < n
      · have hlt : (i : Int) < (n : Int) := by omega
        obtain ⟨b, off, lx, A', c', rfl, hbk, hLi, k0, k1, hW, hwc, hcm⟩ := hat.out i hin
        rw [hbase] at hW hbk
        have k0' := (hbr.cell (p := ⟨b, off + i * 2, none⟩) hbk).trans k0
        have k1' := (hbr.cell (p := ⟨b, off + i * 2 + 1, none⟩) hbk).trans k1
        obtain ⟨hne, hwl⟩ := hwd.out lx (List.mem_of_getElem? hLi)
        have hzr := hbr.size
        have hWr := IsV.below hW hbr
        clear k0 k1 hW
        replace hlf := hide hlf
        replace hcs := hide hcs
        replace hRd := hide hRd
        replace hbr := hide hbr
        replace hLi := hide hLi
        replace hne := hide hne
        replace hwl := hide hwl
        replace hWr := hide hWr
        go_upto_region 7 with fail
        apply wp_region_lit
        iterate 2 (refine wpList_plain rfl fun K hK => ?_; go_simp; refine hK _ _ ?_; clear hK K)
        refine wpl_new rfl rfl 101 _ (alloc_ln _ rfl) 10 rfl (.tmp 33) rfl _ (fun _ => rfl) (fun _ => rfl) rfl (by kernel_rfl) (ln_one (lx.1 : Int) A' lx.2.length c') ?_
        intro w4 hg4 hb4 hz4
        refine wpList_nil ?_
        go_simp
        clear k0' k1'
        have hR4 : RdAt base x w4 c := by
          obtain ⟨mb, ma, nv, vv, wv, h⟩ := hRd.out
          exact ⟨mb, ma, nv, vv, wv, h.on hb4⟩
        have hm4 := (hm1.out.below (by rw [hbase]; exact hbr.out)).below hb4
        have hb4' := hb4.mono (B' := base) (by omega)
        have q5 := line_any lx.2 c w4 base x c' A' (IsV.below hWr.out hb4') (by
          have := hne.out
          rcases h : lx.2 with _ | ⟨y, l⟩
          · exact absurd h this
          · simp) hwc hcm hwl.out hm4 ⟨by have := hcs.out.1; omega, by have := hcs.out.2.1; omega, by have := hcs.out.2.2; omega⟩ hR4
        have hbr4 := hbr.out.trans hb4'
        have hgc := blk_cell hg4
        clear hR4 hm4 hWr hRd hbr hne hwl
        replace q5 := hide q5
        replace hg4 := hide hg4
        replace hbr4 := hide hbr4
        replace hb4' := hide hb4'
        go_wp2_with fail
        refine (q5.out).mono ?_
        rintro e w5 (⟨m, hr1, h0, rfl, hb5⟩ | ⟨c1, hr1, rfl, hP, hb5⟩)
        · have hlf2 := linesF_err hLi.out hlf.out hr1
          have hE : Except.error (lx.1, (m : Int)) = r := by
            rw [← hr2.out, hlf2]
          have hg5 := blk_below hb5 hz4 hg4.out
          have hz5 := hb5.size
          have hbr5 := hbr4.out.trans (hb5.mono (by omega))
          have t : ((m : Int) != 0) = true := by rw [bne_iff_ne]; omega
          clear hr2 hlf2 q5 hb5 hgc hr1
          replace hE := hide hE
          replace hg5 := hide hg5
          replace hbr5 := hide hbr5
          go_upto_region 10 with fail
          refine wp_region_X (KeptS w5.heap.size (fun k => k = w.heap.size)) (by as_aux_lemma => kernel_rfl) ?_
          intro w6 hbd
          have hb6 := hbr5.out.trans (hbd.mono (by omega))
          have hg6 := blk_below hb6 (by omega) hg1.out
          have lz := fun l : RelW (KeptS w5.heap.size (fun k => k = w.heap.size)) w6 => blk_cell ((l.hk.block wr.heap.size (by omega) (by omega)).trans (blk_below hbd (by omega) hg5.out))
          have hz6 := hbd.size
          clear hg5 hbd hbr5
          replace hb6 := hide hb6
          replace hg6 := hide hg6
          refine wpX_seg (KeptS w5.heap.size (fun k => k = w.heap.size)) 0 4 (fuel := 3) (by as_aux_lemma => kernel_rfl) (fun d _ _ _ _ h => by cases d <;> exact h) (by as_aux_lemma => kernel_rfl) (by as_aux_lemma => kernel_rfl) ?_
          simp only [List.drop_zero, List.take_succ_cons, List.take_zero]
          iterate 4 (refine wpQX_step (fun K hK => ?_); go_simp; refine hK _ ?_; clear hK K)
          refine wpQF_nil ?_
          clear lz
          refine wpF_step 4 rfl (by as_aux_lemma => kernel_rfl) (fun K hK => ?_)
          rw [if_pos (by unfold Region.wanted; rfl)]
          refine wp_st 34 (.tmp 2) (.tmp 40) rfl w.heap.size 0 rfl #[.slice none 0 0, .slice none 0 0, .slice none 0 0, .int .i64 0, .int .i64 0, .bool false, .int .u64 0, .int .u64 0, .bool false, .int .u64 0, .int .u64 0] rfl hg6.out (by simp) (by kernel_rfl) (cf_one _ _ _ rfl rfl rfl _ _ _ _ _ _ _ _) fun w9 hg9 g9 => ?_
          refine hK _ _ (Pkt.keptS_grown1 g9 hz6 rfl) ?_
          clear hK K
          rw [putA_whole _ _ (by rfl)] at hg9
          have hb9 : Below w.heap.size w w9 := (hb2.out.trans (hb6.out.mono (by omega))).trans (below_grown g9 (by omega) (Nat.le_refl _))
          have hld : (loadVar 34 ⟨w.heap.size, 0, none⟩).run Tryz.prog w9 = .ok (.agg #[.slice none 0 0, .slice none 0 0, .slice none 0 0, .int .i64 0, .int .i64 0, .bool false, .int .u64 0, .int .u64 0, .bool false, .int .u64 0, .int .u64 0]) w9 := by
            simpa using run_loadVar_mid w9 w.heap.size 0 34 (#[.slice none 0 0, .slice none 0 0, .slice none 0 0, .int .i64 0, .int .i64 0, .bool false, .int .u64 0, .int .u64 0, .bool false, .int .u64 0, .int .u64 0] : Array Value).toList _ (blk_range hg9) Tryz.underlying34 rfl (by kernel_rfl)
          clear hg9 g9
          replace hld := hide hld
          replace hb9 := hide hb9
          refine wpF_step 5 rfl (by as_aux_lemma => kernel_rfl) (fun K hK => ?_)
          go_simp
          refine hK _ _ (IsRel.refl _) ?_
          clear hK K
          refine wpF_step 6 rfl (by as_aux_lemma => kernel_rfl) (fun K hK => ?_)
          go_simp
          refine hK _ _ (IsRel.refl _) ?_
          clear hK K
          refine wpF_done (by as_aux_lemma => kernel_rfl) ?_ 0
          go_wp2_with fail
          exact bodyPost_ret (v := .tuple #[.agg #[.slice none 0 0, .slice none 0 0, .slice none 0 0, .int .i64 0, .int .i64 0, .bool false, .int .u64 0, .int .u64 0, .bool false, .int .u64 0, .int .u64 0], .int .i64 (lx.1 : Int), .int .i64 (m : Int)]) (by simp [results, Tryz.results25, asAddr, hld.out, Result.andThen]) rfl ⟨hb9.out, .inl ⟨(lx.1, (m : Int)), hE.out.symm, rfl⟩⟩
        · have hlf2 := linesF_next hLi.out hlf.out hr1
          have hs2 := lineF_small hcs.out hr1
          have hbr5 := hbr4.out.trans hb5
          clear q5 hb5 hgc hr1 hlf hcs hbr4
          replace hlf2 := hide hlf2
          replace hs2 := hide hs2
          replace hbr5 := hide hbr5
          replace hP := hide hP
          go_wp2_with fail
          exact ⟨⟨i + 1, c1, by omega, by first | rfl | go_num, hlf2.out, hs2.out, hP.out, hbr5.out⟩, by simp only [intOf]; omega⟩
      · obtain rfl : i = n := by omega
        have hlt : ((i : Int) < (i : Int)) = False := by simp
        have hLn : L.take i = L := List.take_of_length_le (by rw [hn.out]; exact Nat.le_refl _)
        rw [hLn] at hlf
        have hE : Except.ok c = r := by rw [← hr2.out, hlf]
        obtain ⟨mb, ma, nv, vv, wv, h⟩ := hRd
        obtain ⟨An, cn, hnv, -, -, -⟩ := own_isv h.cfg.nodes
        obtain ⟨Av2, cv2, hvv, -, -, -⟩ := own_isv h.cfg.vips
        obtain ⟨Aw, cw, hwv, -, -, -⟩ := own_isv h.cfg.views
        subst hnv hvv hwv
        have hrg := cfg_range h.cfg
        have hgr := blk_below hbr (by omega) hg1.out
        have hbw := hb2.out.trans (hbr.mono (by omega))
        have hzr := hbr.size
        clear hr2 hLn hlf
        replace h := hide h
        replace hE := hide hE
        replace hgr := hide hgr
        replace hbw := hide hbw
        replace hrg := hide hrg
        replace hcs := hide hcs
        go_upto_region 12 with fail
        apply wp_region_lit
        iterate 3 (refine wpList_plain rfl fun K hK => ?_; go_simp; refine hK _ _ ?_; clear hK K)
        refine wpList_load_mid rfl 34 (.tmp 47) rfl x 0 rfl _ _ hrg.out Tryz.underlying34 rfl (by kernel_rfl) ?_
        simp only [Array.toArray_toList]
        refine wpl_st rfl 34 (.tmp 2) (.tmp 48) rfl w.heap.size 0 rfl (cfC c (.slice An c.nodes.length cn) (.slice Av2 c.vips.length cv2) (.slice Aw c.views.length cw)) rfl hgr.out (Nat.le_refl 11) (by kernel_rfl) (cf_one _ _ _ rfl rfl rfl _ _ _ _ _ _ _ _) fun w9 hg9 g9 => ?_
        rw [putA_whole _ _ (by rfl)] at hg9
        have hb9 : Below w.heap.size w w9 := hbw.out.trans (below_grown g9 (by omega) (Nat.le_refl _))
        have hR9 := h.out.cfg
        have hv : CfgV w9 w.heap.size c (cfC c (.slice An c.nodes.length cn) (.slice Av2 c.vips.length cv2) (.slice Aw c.views.length cw)) :=
          ⟨row_weaken (World.ownsRow.kept hR9.nodes g9 (row_below_g hR9.nodes (by omega))) (by omega), row_weaken (World.ownsRow.kept hR9.vips g9 (row_below_g hR9.vips (by omega))) (by omega), row_weaken (World.ownsRow.kept hR9.views g9 (row_below_g hR9.views (by omega))) (by omega), rfl⟩
        have hld : (loadVar 34 ⟨w.heap.size, 0, none⟩).run Tryz.prog w9 = .ok (.agg (cfC c (.slice An c.nodes.length cn) (.slice Av2 c.vips.length cv2) (.slice Aw c.views.length cw))) w9 := by
          simpa using run_loadVar_mid w9 w.heap.size 0 34 (cfC c (.slice An c.nodes.length cn) (.slice Av2 c.vips.length cv2) (.slice Aw c.views.length cw)).toList _ (blk_range hg9) Tryz.underlying34 rfl (by kernel_rfl)
        clear hg9 g9 hR9
        replace hld := hide hld
        replace hb9 := hide hb9
        replace hv := hide hv
        iterate 2 (refine wpList_plain rfl fun K hK => ?_; go_simp; refine hK _ _ ?_; clear hK K)
        refine wpList_nil ?_
        go_simp
        go_wp2_with fail
        exact bodyPost_ret (v := .tuple #[.agg (cfC c (.slice An c.nodes.length cn) (.slice Av2 c.vips.length cv2) (.slice Aw c.views.length cw)), .int .i64 0, .int .i64 0]) (by simp [results, Tryz.results25, asAddr, hld.out, Result.andThen]) rfl ⟨hb9.out, .inr ⟨c, _, hE.out.symm, rfl, hv.out, by have := hcs.out; exact ⟨by have := this.1; omega, by have := this.2.1; omega, by have := this.2.2; omega⟩⟩⟩
end Conf18
end Go.Proofs.YtcpokkkdmenmgaaGreatDoor
/- conf, the law's own reader in memory: what each change leaves. No condition. -/
namespace Go.Proofs.YtcpokkkdmenmgaaGreatDoor
open Go.RowKit Go.ChangeShapes Go.WideShapes Go.ChangeAt Go.Deep
namespace Conf18
open Addr05 (Adr strv MaxAt)
section
variable {w w' : World} {base x mb ma : Nat} {nv vv wv nv' : Value} {c c' : Cfg}
end
end Conf18
end Go.Proofs.YtcpokkkdmenmgaaGreatDoor
/- conf, the law: find: the place of a name. No condition. -/
namespace Go.Proofs.YtcpokkkdmenmgaaGreatDoor
open Go.RowKit Go.ChangeShapes Go.WideShapes Go.ChangeAt Go.Deep
namespace Conf18
open Addr05
def findI (o : Option Nat) : Int := match o with | some k => (k : Int) | none => -1
end Conf18
end Go.Proofs.YtcpokkkdmenmgaaGreatDoor
/- conf, the law: node: a line of 2 words, of kind 1. Conditions: words of at most 2^16 bytes. -/
namespace Go.Proofs.YtcpokkkdmenmgaaGreatDoor
open Go.RowKit Go.ChangeShapes Go.WideShapes Go.ChangeAt Go.Deep
namespace Conf18
open Addr05
end Conf18
end Go.Proofs.YtcpokkkdmenmgaaGreatDoor
/- conf, the law: node: a line of 3 words, of kind 2. Conditions: words of at most 2^16 bytes. -/
namespace Go.Proofs.YtcpokkkdmenmgaaGreatDoor
open Go.RowKit Go.ChangeShapes Go.WideShapes Go.ChangeAt Go.Deep
namespace Conf18
open Addr05
end Conf18
end Go.Proofs.YtcpokkkdmenmgaaGreatDoor
/- conf, the law: node: a line of 3 words, of kind 3. Conditions: words of at most 2^16 bytes. -/
namespace Go.Proofs.YtcpokkkdmenmgaaGreatDoor
open Go.RowKit Go.ChangeShapes Go.WideShapes Go.ChangeAt Go.Deep
namespace Conf18
open Addr05
end Conf18
end Go.Proofs.YtcpokkkdmenmgaaGreatDoor
/- conf, the law: node: a line of 4 words, of kind 2. Conditions: words of at most 2^16 bytes. -/
namespace Go.Proofs.YtcpokkkdmenmgaaGreatDoor
open Go.RowKit Go.ChangeShapes Go.WideShapes Go.ChangeAt Go.Deep
namespace Conf18
open Addr05
end Conf18
end Go.Proofs.YtcpokkkdmenmgaaGreatDoor
/- conf, the law: node: a line of 4 words, of kind 3. Conditions: words of at most 2^16 bytes. -/
namespace Go.Proofs.YtcpokkkdmenmgaaGreatDoor
open Go.RowKit Go.ChangeShapes Go.WideShapes Go.ChangeAt Go.Deep
namespace Conf18
open Addr05
end Conf18
end Go.Proofs.YtcpokkkdmenmgaaGreatDoor
/- conf, the law: node: a line of 5 words, of kind 4. Conditions: words of at most 2^16 bytes. -/
namespace Go.Proofs.YtcpokkkdmenmgaaGreatDoor
open Go.RowKit Go.ChangeShapes Go.WideShapes Go.ChangeAt Go.Deep
namespace Conf18
open Addr05
end Conf18
end Go.Proofs.YtcpokkkdmenmgaaGreatDoor
/- conf, the law: vip: a line that says which address is balanced. Conditions: words of at most 2^16 bytes. -/
namespace Go.Proofs.YtcpokkkdmenmgaaGreatDoor
open Go.RowKit Go.ChangeShapes Go.WideShapes Go.ChangeAt Go.Deep
namespace Conf18
open Addr05
end Conf18
end Go.Proofs.YtcpokkkdmenmgaaGreatDoor
/- conf, the law: view: a line that says where sources begin. Conditions: words of at most 2^16 bytes. -/
namespace Go.Proofs.YtcpokkkdmenmgaaGreatDoor
open Go.RowKit Go.ChangeShapes Go.WideShapes Go.ChangeAt Go.Deep
namespace Conf18
open Addr05
end Conf18
end Go.Proofs.YtcpokkkdmenmgaaGreatDoor
/- conf, the law: self: a line that says from which address packets are sent. Conditions: words of at most 2^16 bytes. -/
namespace Go.Proofs.YtcpokkkdmenmgaaGreatDoor
open Go.RowKit Go.ChangeShapes Go.WideShapes Go.ChangeAt Go.Deep
namespace Conf18
open Addr05
end Conf18
end Go.Proofs.YtcpokkkdmenmgaaGreatDoor
/- conf, the law: line: one of the lines. Conditions: words of at most 2^16 bytes. -/
namespace Go.Proofs.YtcpokkkdmenmgaaGreatDoor
open Go.RowKit Go.ChangeShapes Go.WideShapes Go.ChangeAt Go.Deep
namespace Conf18
open Addr05
theorem lfour_words {α : Type} {l : List α} (h : l.length = 4) : ∃ a b c d, l = [a, b, c, d] := by
  match l, h with
  | [a, b, c, d], _ => exact ⟨a, b, c, d, rfl⟩
theorem lfive_words {α : Type} {l : List α} (h : l.length = 5) : ∃ a b c d e, l = [a, b, c, d, e] := by
  match l, h with
  | [a, b, c, d, e], _ => exact ⟨a, b, c, d, e, rfl⟩
end Conf18
end Go.Proofs.YtcpokkkdmenmgaaGreatDoor
/- conf, the law: parsed. Conditions: texts of at most 2^16 bytes; the cell of bytealg.MaxLen. -/
namespace Go.Proofs.YtcpokkkdmenmgaaGreatDoor
open Go.RowKit Go.ChangeShapes Go.WideShapes Go.ChangeAt Go.Deep
namespace Conf18
open Addr05
theorem kept_cell {S : Nat} {P : Nat → Prop} {w w' : World} (h : KeptS S P w w') {p : Addr} (hp : p.block < S) (hn : ¬ P p.block) : w'.cell? p = w.cell? p := World.cell?_of_block (w := w) (h.block p.block hp hn)
theorem lnA_count (ps : List (List UInt8)) (M : Nat) (h : ∀ x ∈ ps, x.length ≤ M) : ∀ i, ∀ p ∈ lnA ps i, p.2.length ≤ M + 1
  | 0, p, hp => by cases hp
  | i + 1, p, hp => by
    have ih := lnA_count ps M h i
    unfold lnA at hp
    split at hp
    · exact ih p hp
    · rename_i x hx
      split at hp
      · exact ih p hp
      · rcases List.mem_append.1 hp with h1 | h1
        · exact ih p h1
        · rw [List.mem_singleton] at h1
          subst h1
          have h3 := (cut_len x [35]).1
          have h4 := h x (List.mem_of_getElem? hx)
          have h5 := wAt_len (Lib.cut x [35]).1 ((Lib.cut x [35]).1.length + 1)
          show (lnW x).length ≤ M + 1
          unfold lnW wordsF
          omega
end Conf18
end Go.Proofs.YtcpokkkdmenmgaaGreatDoor
/- conf, the law: same: two configurations that are one. No condition. -/
namespace Go.Proofs.YtcpokkkdmenmgaaGreatDoor
open Go.RowKit Go.ChangeShapes Go.WideShapes Go.ChangeAt Go.Deep
namespace Conf18
open Addr05
/-- A configuration as a value that was there. -/
structure CfgR (w : World) (B : Nat) (c : Cfg) (A1 A2 A3 : Option Addr) (k1 k2 k3 : Nat) : Prop where
  nodes : IsT ndC 7 w B A1 c.nodes.length c.nodes
  vips : IsT vpC 7 w B A2 c.vips.length c.vips
  views : IsT vwC 5 w B A3 c.views.length c.views
theorem CfgV.open {w : World} {base : Nat} {c : Cfg} {v : Array Value} (h : CfgV w base c v) : ∃ A1 A2 A3 k1 k2 k3, v = cfC c (.slice A1 c.nodes.length k1) (.slice A2 c.vips.length k2) (.slice A3 c.views.length k3) ∧ CfgR w w.heap.size c A1 A2 A3 k1 k2 k3 := by
  obtain ⟨A1, k1, e1, -, -, h1⟩ := own_isv h.nodes
  obtain ⟨A2, k2, e2, -, -, h2⟩ := own_isv h.vips
  obtain ⟨A3, k3, e3, -, -, h3⟩ := own_isv h.views
  have := h.arr
  rw [e1, e2, e3] at this
  exact ⟨A1, A2, A3, k1, k2, k3, this, ⟨rfl, h1⟩, ⟨rfl, h2⟩, ⟨rfl, h3⟩⟩
theorem CfgR.on {w w' : World} {c : Cfg} {A1 A2 A3 : Option Addr} {k1 k2 k3 : Nat} (h : CfgR w w.heap.size c A1 A2 A3 k1 k2 k3) (hb : Below w.heap.size w w') : CfgR w' w'.heap.size c A1 A2 A3 k1 k2 k3 := ⟨h.nodes.on hb, h.vips.on hb, h.views.on hb⟩
theorem CfgV.on {w w' : World} {base : Nat} {c : Cfg} {v : Array Value} (h : CfgV w base c v) (hb : Below w.heap.size w w') : CfgV w' base c v := ⟨row_on h.nodes hb, row_on h.vips hb, row_on h.views hb, h.arr⟩
theorem CfgV.zero (w : World) (base : Nat) : CfgV w base zeroC (cfC zeroC (.slice none 0 0) (.slice none 0 0) (.slice none 0 0)) := ⟨World.ownsRow_nil _ _ _ _, World.ownsRow_nil _ _ _ _, World.ownsRow_nil _ _ _ _, rfl⟩
end Conf18
end Go.Proofs.YtcpokkkdmenmgaaGreatDoor
/- valid, plain: which configurations may be. No condition. -/
namespace Go.Proofs.YtcpokkkdmenmgaaGreatDoor
open Go.RowKit Go.ChangeShapes Go.WideShapes Go.ChangeAt Go.Deep
namespace Val19
open Conf18 (Nd Vp Vw Cfg zA)
open Addr05 (Adr rightP)
open Tree16 (rightA treeF topF)
def plainF (c : Cfg) : Nat :=
  if c.factor < 100 ∨ 1000 < c.factor ∨ (c.domain ≠ 2 ∧ c.domain ≠ 3) then 5
  else if c.s0.v6 = true ∨ rightA c.s0 = false ∨ (c.s1 ≠ zA ∧ c.s1.v6 = false) then 18
  else if 64 < c.vips.length ∨ 64 < c.views.length then 6 else 0
def selfN (c : Cfg) (n : Nd) : Bool := !decide (n.kind = 4 ∧ (if n.a.v6 = true then c.s1 else c.s0) = zA)
def selfB (c : Cfg) : Bool := c.nodes.all (selfN c)
def twinV (v x : Vp) : Bool := decide (x.a = v.a ∧ x.proto = v.proto ∧ x.port = v.port)
def vipF (v : Vp) (l : List Vp) : Nat :=
  if rightA v.a = false then 18 else if v.proto ≠ 6 ∧ v.proto ≠ 17 then 14
  else if v.port < 0 ∨ 65535 < v.port ∨ v.copies < 1 ∨ 8 < v.copies ∨ (1 < v.copies ∧ v.proto ≠ 17) then 5
  else if l.any (twinV v) = true then 8 else 0
def twinW (v x : Vw) : Bool := decide (x.a = v.a ∧ x.bits = v.bits)
def viewG (v : Vw) (l : List Vw) (levels : Nat) : Nat :=
  if rightP v.a v.bits = false then 18 else if v.level < 0 ∨ (levels : Int) ≤ v.level then 5 else if l.any (twinW v) = true then 8 else 0
/-- The first error of a row. -/
def rowE {α : Type} (f : α → List α → Nat) (l : List α) : Nat → Nat
  | 0 => 0
  | i + 1 => if rowE f l i ≠ 0 then rowE f l i else match l[i]? with
    | none => 0
    | some x => f x (l.take i)
def validF (c : Cfg) : Nat :=
  if plainF c ≠ 0 then plainF c else match treeF c.nodes with
    | some p => p.2
    | none => if selfB c = false then 7 else if rowE vipF c.vips c.vips.length ≠ 0 then rowE vipF c.vips c.vips.length
      else rowE (fun v l => viewG v l (topF c.nodes).length) c.views c.views.length
end Val19
end Go.Proofs.YtcpokkkdmenmgaaGreatDoor
