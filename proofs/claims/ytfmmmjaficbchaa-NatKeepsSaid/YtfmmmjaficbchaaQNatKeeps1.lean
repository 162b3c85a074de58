/- Plain: which bytes of a packet are others when an address and a port are. Conditions: the packet can be turned. -/
import Derived.Test.YtfmmmjaficbchaaQNatFlows19
import Derived.Test.YtfmmmjaficbchaaQNatBare1
import Derived.Test.YtfmmmjaficbchaaQNatFlows17
namespace Go.Proofs.Ytfmmmjaficbchaa
open Go.RowKit Go.ChangeShapes Go.WideShapes Go.ChangeAt Go.Deep
namespace Nat15
/-- Is the byte one of the address, the port, or a check? -/
def keepB (v6 : Bool) (at_ long size s check i : Nat) : Bool := (decide (at_ ≤ i) && decide (i < at_ + long)) || decide (i = size + 2 * s) || decide (i = size + 2 * s + 1) || decide (i = check) || decide (i = check + 1) || (!v6 && (decide (i = 10) || decide (i = 11)))
theorem turnR_same (udp : Bool) (R : List UInt8) (s port : Nat) (fs ts : List Nat) (hs : s ≤ 1) (hl : whR udp + 2 ≤ R.length) (H : List UInt8) (i : Nat) (hi : H.length ≤ i) (h1 : i ≠ H.length + 2 * s) (h2 : i ≠ H.length + 2 * s + 1) (h3 : i ≠ H.length + whR udp) (h4 : i ≠ H.length + whR udp + 1) :
    (H ++ turnR udp R s port fs ts)[i]? = R[i - H.length]? := by
  rw [List.getElem?_append_right hi]
  exact (turnR_get udp R s port fs ts hs hl).2 _ (by omega) (by omega) (by omega) (by omega)
theorem keeps4 {n : Nat} {xs : List UInt8} {udp : Bool} {R : List UInt8} {slo dlo sp dp ttl fl : Nat} (h : Turn4 n xs n 20 udp R slo dlo sp dp ttl fl) (s tlo port was : Nat) (hs : s ≤ 1) (ht : tlo < 4294967296) (i : Nat) (hk : keepB false (12 + 4 * s) 4 20 s (20 + whR udp) i = false) :
    (natB4 xs n 20 udp R s tlo port was)[i]? = xs[i]? := by
  obtain ⟨s1, s2, s3, s4, s5, s6, s7, s8, s9⟩ := h.sizes
  have hl := h.up.len
  have hH : (xs.take 20).length = 20 := by rw [List.length_take]; omega
  obtain ⟨g1, g2, _⟩ := turnH4_get (xs.take 20) s tlo hs (by omega) ht
  simp [keepB] at hk
  obtain ⟨⟨⟨⟨⟨k1, k2⟩, k3⟩, k4⟩, k5⟩, k6, k7⟩ := hk
  have hx : xs = xs.take 20 ++ R := by
    have h1 := h.hR
    rw [List.take_of_length_le (by omega)] at h1
    rw [← h1, List.take_append_drop]
  unfold natB4
  by_cases hi : i < 20
  · rw [List.getElem?_append_left (by omega), g2 i (by omega) (by omega) (by omega)]
    conv => rhs; rw [hx]
    rw [List.getElem?_append_left (by omega)]
  · rw [turnR_same udp R s port _ _ hs hl _ i (by omega) (by omega) (by omega) (by omega) (by omega), g1, hH]
    conv => rhs; rw [hx]
    rw [List.getElem?_append_right (by omega), hH]
theorem keeps6 {n : Nat} {xs : List UInt8} {acc : List (Int × List UInt8)} {udp : Bool} {R : List UInt8} {shi slo dhi dlo sp dp ttl fl : Nat} (h : Turn6 n xs acc 40 udp R shi slo dhi dlo sp dp ttl fl) (hn : 40 + R.length = n) (s thi tlo port whi wlo : Nat) (hs : s ≤ 1) (h1 : thi < 18446744073709551616) (h2 : tlo < 18446744073709551616) (i : Nat) (hk : keepB true (8 + 16 * s) 16 40 s (40 + whR udp) i = false) :
    (natB6 xs 40 udp R s thi tlo port whi wlo)[i]? = xs[i]? := by
  obtain ⟨s1, s2, s3, s4, s5, s6, s7, s8, s9⟩ := h.sizes
  have hl := h.up.len
  have hH : (xs.take 40).length = 40 := by rw [List.length_take]; omega
  obtain ⟨g1, g2, _⟩ := turnH6_get (xs.take 40) s thi tlo hs (by omega) h1 h2
  simp [keepB] at hk
  obtain ⟨⟨⟨⟨k1, k2⟩, k3⟩, k4⟩, k5⟩ := hk
  have hx : xs = xs.take 40 ++ R := by
    have h1 := h.rest
    rw [h.he, List.take_of_length_le (by omega)] at h1
    conv => lhs; rw [← List.take_append_drop 40 xs]
    rw [h1]
  unfold natB6
  by_cases hi : i < 40
  · rw [List.getElem?_append_left (by omega), g2 i (by omega)]
    conv => rhs; rw [hx]
    rw [List.getElem?_append_left (by omega)]
  · rw [turnR_same udp R s port _ _ hs hl _ i (by omega) (by omega) (by omega) (by omega) (by omega), g1, hH]
    conv => rhs; rw [hx]
    rw [List.getElem?_append_right (by omega), hH]
end Nat15
end Go.Proofs.Ytfmmmjaficbchaa
/- The statement NatKeeps, walked. Conditions: what pkt.Segment, pkt.Datagram and nat.Turn make is known. -/
namespace Go.Proofs.Ytfmmmjaficbchaa
open Go.RowKit Go.ChangeShapes Go.WideShapes Go.ChangeAt Go.Deep
namespace Nat15
open Pkt (InEnd End2 pkZ IsG pkG alloc_pk size_pk pkZ_size pkZ_one PIs pkG_one pkA pkA_one tuA tuA_one wrapB dgU)
set_option maxRecDepth 20000 in
set_option maxHeartbeats 8000000 in
theorem keeps_no (n0 n c m KS KD KM : Nat) (xs US UD U : List UInt8) (pr : Int) (sv : Bool) (shi slo : Int) (dv : Bool) (dhi dlo sp dp flags : Int) (s : Int) (tv : Bool) (thi tlo port : Int) (hKn : KM ≠ 0) (A : Option Addr) (w : World) (hx : IsB w w.heap.size A n xs) (hn : min n0 500 = n) (hnc : n0 ≤ c) (hcm : c ≤ maxLen) (hUl : KM = 0 → U.length = m)
    (hK0 : (if KS = 0 then 0 else KD) = KM) (hU0 : (if KS = 0 then US else UD) = U)
    (hS : ∀ w : World, IsB w w.heap.size A n xs → Calls Try.prog 18 #[.agg (tuA pr sv shi slo dv dhi dlo sp dp), .int .i64 64, .int .i64 flags, .slice A n c] w fun e w' => InEnd KS US w w' e)
    (hD : ∀ w : World, IsB w w.heap.size A n xs → Calls Try.prog 16 #[.agg (tuA pr sv shi slo dv dhi dlo sp dp), .int .i64 64, .slice A n c] w fun e w' => InEnd KD UD w w' e)
    (_ht : True) :
    Calls Try.prog 6 #[.agg (tuA pr sv shi slo dv dhi dlo sp dp), .int .i64 flags, .slice A n0 c, .int .i64 s, .agg #[.bool tv, .int .u64 thi, .int .u64 tlo], .int .i64 port] w fun e w' => e = .returned (.bool true) ∧ Below w.heap.size w w' := by
  obtain ⟨w1, hw1⟩ : ∃ w1, w.alloc (.cells (tuA pr sv shi slo dv dhi dlo sp dp) 32) = w1 := ⟨_, rfl⟩
  obtain ⟨w2, hw2⟩ : ∃ w2, w1.alloc (.cells #[.bool tv, .int .u64 thi, .int .u64 tlo] 26) = w2 := ⟨_, rfl⟩
  have hb1 : Below w.heap.size w w1 := hw1 ▸ (Below.refl _ _).alloc (Nat.le_refl _) _
  have hb2 : Below w1.heap.size w1 w2 := hw2 ▸ (Below.refl _ _).alloc (Nat.le_refl _) _
  have hgt := blk_on hb2 (hw1 ▸ blk_new w 32 (tuA pr sv shi slo dv dhi dlo sp dp))
  have hg := hw2 ▸ blk_new w1 26 #[.bool tv, .int .u64 thi, .int .u64 tlo]
  have hB := hb1.trans (hb2.mono hb1.size)
  have zt := blk_lt hgt
  have hn0 : n0 ≤ maxLen := by omega
  have hCut := fun w => Pkt.pcut_b A n0 c n w hn0 hnc hn
  replace hx := hx.on hB
  clear hb1 hb2
  unfold tuA at hw1 hgt hS hD ⊢
  replace hx := hide hx
  replace hS := hide hS
  replace hD := hide hD
  replace hn := hide hn
  replace hCut := hide hCut
  replace hK0 := hide hK0
  replace hU0 := hide hU0
  replace hUl := hide hUl
  replace hB := hide hB
  replace hgt := hide hgt
  replace hg := hide hg
  replace hx := hide hx
  go_enter Try.func6, Try.ntmps6
  go_upto_region 1 with fail
  clear hw1 hw2
  have hcl := fun (l : Later w2) (o : Nat) => blk_cell (blk_below l.hb zt hgt.out) o
  refine wp_region_L (by as_aux_lemma => kernel_rfl) ?_
  refine wpE_seg 0 4 (fuel := 6) (by as_aux_lemma => kernel_rfl) (fun d _ _ _ _ h => by cases d <;> exact h) (by as_aux_lemma => kernel_rfl) (by as_aux_lemma => kernel_rfl) ?_
  simp only [List.drop_zero, List.take_succ_cons, List.take_zero]
  iterate 3 (refine wpQE_step (fun K hK => ?_); go_simp; refine hK _ ?_; clear hK K)
  (refine wpQE_step (fun K hK => ?_); go_simp; apply Exists.intro; refine ⟨fun l => ?_, hK _ ?_⟩; (go_at_call 10; refine (hCut.out l.w).mono ?_; rintro e w' ⟨rfl, hb⟩; exact ⟨rfl, hb⟩); clear hK K)
  refine wpQE_nil ?_
  clear hcl
  refine wpE_step 4 (fuel := 5) rfl (by as_aux_lemma => kernel_rfl) (fun l K hK => ?_)
  go_simp
  have hb1 := l.hb
  go_at_call 18
  refine (hS.out _ (hx.out.on hb1)).mono ?_
  rintro e w3 ⟨v3, rfl, h3, -, hb3⟩
  refine hK _ _ hb3 ?_
  clear hK K
  refine wpE_seg 5 5 (fuel := 0) (by as_aux_lemma => kernel_rfl) (fun d _ _ _ _ h => by cases d <;> exact h) (by as_aux_lemma => kernel_rfl) (by as_aux_lemma => kernel_rfl) ?_
  simp only [List.drop_succ_cons, List.drop_zero, List.take_succ_cons, List.take_zero]
  iterate 5 (refine wpQE_step (fun K hK => ?_); go_simp; refine hK _ ?_; clear hK K)
  refine wpQE_nil ?_
  refine wpE_done (by as_aux_lemma => kernel_rfl) (fun w4 hb4 => ?_) 0
  have h4 : KS = 0 → ∃ A c, v3 = .slice A U.length c ∧ U.length ≤ c ∧ c ≤ maxLen ∧ IsB w4 w4.heap.size A U.length U := fun h => by
    have hu := hU0.out
    rw [if_pos h] at hu
    obtain ⟨A3, c3, e3, h31, h32, h33⟩ := (h3 h).form
    rw [hu] at e3 h31 h33
    exact ⟨A3, c3, e3, h31, h32, h33.on hb4⟩
  have hb5 := hb1.trans ((hb3.mono hb1.size).trans (hb4.mono (Nat.le_trans hb1.size hb3.size)))
  clear hb1 hb3 hb4 h3
  replace hB := hide (hB.out.trans (hb5.mono hB.out.size))
  replace hgt := hide (blk_on hb5 hgt.out)
  replace hg := hide (blk_on hb5 hg.out)
  replace hx := hide (hx.out.on hb5)
  clear hb5
  replace h4 := hide h4
  go_upto_if 32 with fail
  go_cut [13, 14] (fun bv kv wx => kv = .int .i64 (KM : Int) ∧ (KM = 0 → ∃ A c, bv = .slice A U.length c ∧ U.length ≤ c ∧ c ≤ maxLen ∧ IsB wx wx.heap.size A U.length U) ∧ Below w4.heap.size w4 wx)
  case first =>
    by_cases hk : KS = 0
    · subst hk
      obtain rfl : 0 = KM := by have := hK0.out; rwa [if_pos rfl] at this
      go_wp2_with fail
      all_goals go_meet
      all_goals exact ⟨rfl, fun _ => h4.out (by trivial), Below.refl _ _⟩
    · have t1 : ((KS : Int) != 0) = true := by rw [bne_iff_ne]; omega
      obtain rfl : KD = KM := by have := hK0.out; rwa [if_neg hk] at this
      obtain rfl : UD = U := by have := hU0.out; rwa [if_neg hk] at this
      clear hk
      go_upto_region 3 with fail
      have zt4 := blk_lt hgt.out
      have hcl := fun (l : Later w4) (o : Nat) => blk_cell (blk_below l.hb zt4 hgt.out) o
      refine wp_region_L (by as_aux_lemma => kernel_rfl) ?_
      refine wpE_seg 0 3 (fuel := 6) (by as_aux_lemma => kernel_rfl) (fun d _ _ _ _ h => by cases d <;> exact h) (by as_aux_lemma => kernel_rfl) (by as_aux_lemma => kernel_rfl) ?_
      simp only [List.drop_zero, List.take_succ_cons, List.take_zero]
      iterate 2 (refine wpQE_step (fun K hK => ?_); go_simp; refine hK _ ?_; clear hK K)
      (refine wpQE_step (fun K hK => ?_); go_simp; apply Exists.intro; refine ⟨fun l => ?_, hK _ ?_⟩; (go_at_call 10; refine (hCut.out l.w).mono ?_; rintro e w' ⟨rfl, hb⟩; exact ⟨rfl, hb⟩); clear hK K)
      refine wpQE_nil ?_
      clear hcl
      refine wpE_step 3 (fuel := 5) rfl (by as_aux_lemma => kernel_rfl) (fun l K hK => ?_)
      go_simp
      have hb1 := l.hb
      go_at_call 16
      refine (hD.out _ (hx.out.on hb1)).mono ?_
      rintro e w5 ⟨v5, rfl, h5, -, hb3⟩
      refine hK _ _ hb3 ?_
      clear hK K
      refine wpE_seg 4 5 (fuel := 0) (by as_aux_lemma => kernel_rfl) (fun d _ _ _ _ h => by cases d <;> exact h) (by as_aux_lemma => kernel_rfl) (by as_aux_lemma => kernel_rfl) ?_
      simp only [List.drop_succ_cons, List.drop_zero, List.take_succ_cons, List.take_zero]
      iterate 5 (refine wpQE_step (fun K hK => ?_); go_simp; refine hK _ ?_; clear hK K)
      refine wpQE_nil ?_
      refine wpE_done (by as_aux_lemma => kernel_rfl) (fun w6 hb4 => ?_) 0
      have h6 : KD = 0 → ∃ A c, v5 = .slice A UD.length c ∧ UD.length ≤ c ∧ c ≤ maxLen ∧ IsB w6 w6.heap.size A UD.length UD := fun h => by
        obtain ⟨A3, c3, e3, h31, h32, h33⟩ := (h5 h).form
        exact ⟨A3, c3, e3, h31, h32, h33.on hb4⟩
      have hb5 := hb1.trans ((hb3.mono hb1.size).trans (hb4.mono (Nat.le_trans hb1.size hb3.size)))
      clear hb1 hb3 hb4 h5
      replace h6 := hide h6
      replace hb5 := hide hb5
      go_wp2_with fail
      go_meet
      exact ⟨rfl, h6.out, hb5.out⟩
  case rest =>
  obtain ⟨rfl, hb, hb6⟩ := hcut
  clear h4
  clear hx
  replace hB := hide (hB.out.trans (hb6.mono hB.out.size))
  replace hgt := hide (blk_on hb6 hgt.out)
  replace hg := hide (blk_on hb6 hg.out)
  clear hb6
  replace hb := hide hb
  have t1 : ((KM : Int) != 0) = true := by rw [bne_iff_ne]; omega
  go_wp2_with fail
  refine (awake_any _).mono ?_
  rintro e w10 ⟨rfl, hb10⟩
  replace hB := hide (hB.out.trans (hb10.mono hB.out.size))
  replace hgt := hide (blk_on hb10 hgt.out)
  replace hg := hide (blk_on hb10 hg.out)
  clear hb10
  go_wp2_with fail
  go_ret
  exact ⟨by rfl, hB.out⟩
set_option maxRecDepth 20000 in
set_option maxHeartbeats 8000000 in
theorem keeps_no2 (n0 n c m KS KD KM : Nat) (xs US UD U : List UInt8) (pr : Int) (sv : Bool) (shi slo : Int) (dv : Bool) (dhi dlo sp dp flags : Int) (s : Int) (tv : Bool) (thi tlo port : Int) (KT : Nat) (X : List UInt8) (hKn : KM = 0) (hKT : KT ≠ 0) (A : Option Addr) (w : World) (hx : IsB w w.heap.size A n xs) (hn : min n0 500 = n) (hnc : n0 ≤ c) (hcm : c ≤ maxLen) (hUl : KM = 0 → U.length = m)
    (hK0 : (if KS = 0 then 0 else KD) = KM) (hU0 : (if KS = 0 then US else UD) = U)
    (hS : ∀ w : World, IsB w w.heap.size A n xs → Calls Try.prog 18 #[.agg (tuA pr sv shi slo dv dhi dlo sp dp), .int .i64 64, .int .i64 flags, .slice A n c] w fun e w' => InEnd KS US w w' e)
    (hD : ∀ w : World, IsB w w.heap.size A n xs → Calls Try.prog 16 #[.agg (tuA pr sv shi slo dv dhi dlo sp dp), .int .i64 64, .slice A n c] w fun e w' => InEnd KD UD w w' e)
    (hT : ∀ (A : Option Addr) (c : Nat) (w : World), IsB w w.heap.size A m U → m ≤ c → c ≤ maxLen → Calls Try.prog 11 #[.slice A m c, .int .i64 s, .agg #[.bool tv, .int .u64 thi, .int .u64 tlo], .int .i64 port] w fun en w' => InEnd KT X w w' en) :
    Calls Try.prog 6 #[.agg (tuA pr sv shi slo dv dhi dlo sp dp), .int .i64 flags, .slice A n0 c, .int .i64 s, .agg #[.bool tv, .int .u64 thi, .int .u64 tlo], .int .i64 port] w fun e w' => e = .returned (.bool true) ∧ Below w.heap.size w w' := by
  obtain ⟨w1, hw1⟩ : ∃ w1, w.alloc (.cells (tuA pr sv shi slo dv dhi dlo sp dp) 32) = w1 := ⟨_, rfl⟩
  obtain ⟨w2, hw2⟩ : ∃ w2, w1.alloc (.cells #[.bool tv, .int .u64 thi, .int .u64 tlo] 26) = w2 := ⟨_, rfl⟩
  have hb1 : Below w.heap.size w w1 := hw1 ▸ (Below.refl _ _).alloc (Nat.le_refl _) _
  have hb2 : Below w1.heap.size w1 w2 := hw2 ▸ (Below.refl _ _).alloc (Nat.le_refl _) _
  have hgt := blk_on hb2 (hw1 ▸ blk_new w 32 (tuA pr sv shi slo dv dhi dlo sp dp))
  have hg := hw2 ▸ blk_new w1 26 #[.bool tv, .int .u64 thi, .int .u64 tlo]
  have hB := hb1.trans (hb2.mono hb1.size)
  have zt := blk_lt hgt
  have hn0 : n0 ≤ maxLen := by omega
  have hCut := fun w => Pkt.pcut_b A n0 c n w hn0 hnc hn
  replace hx := hx.on hB
  clear hb1 hb2
  unfold tuA at hw1 hgt hS hD ⊢
  replace hx := hide hx
  replace hS := hide hS
  replace hD := hide hD
  replace hn := hide hn
  replace hCut := hide hCut
  replace hK0 := hide hK0
  replace hU0 := hide hU0
  replace hUl := hide hUl
  replace hT := hide hT
  replace hKn := hide hKn
  replace hB := hide hB
  replace hgt := hide hgt
  replace hg := hide hg
  replace hx := hide hx
  go_enter Try.func6, Try.ntmps6
  go_upto_region 1 with fail
  clear hw1 hw2
  have hcl := fun (l : Later w2) (o : Nat) => blk_cell (blk_below l.hb zt hgt.out) o
  refine wp_region_L (by as_aux_lemma => kernel_rfl) ?_
  refine wpE_seg 0 4 (fuel := 6) (by as_aux_lemma => kernel_rfl) (fun d _ _ _ _ h => by cases d <;> exact h) (by as_aux_lemma => kernel_rfl) (by as_aux_lemma => kernel_rfl) ?_
  simp only [List.drop_zero, List.take_succ_cons, List.take_zero]
  iterate 3 (refine wpQE_step (fun K hK => ?_); go_simp; refine hK _ ?_; clear hK K)
  (refine wpQE_step (fun K hK => ?_); go_simp; apply Exists.intro; refine ⟨fun l => ?_, hK _ ?_⟩; (go_at_call 10; refine (hCut.out l.w).mono ?_; rintro e w' ⟨rfl, hb⟩; exact ⟨rfl, hb⟩); clear hK K)
  refine wpQE_nil ?_
  clear hcl
  refine wpE_step 4 (fuel := 5) rfl (by as_aux_lemma => kernel_rfl) (fun l K hK => ?_)
  go_simp
  have hb1 := l.hb
  go_at_call 18
  refine (hS.out _ (hx.out.on hb1)).mono ?_
  rintro e w3 ⟨v3, rfl, h3, -, hb3⟩
  refine hK _ _ hb3 ?_
  clear hK K
  refine wpE_seg 5 5 (fuel := 0) (by as_aux_lemma => kernel_rfl) (fun d _ _ _ _ h => by cases d <;> exact h) (by as_aux_lemma => kernel_rfl) (by as_aux_lemma => kernel_rfl) ?_
  simp only [List.drop_succ_cons, List.drop_zero, List.take_succ_cons, List.take_zero]
  iterate 5 (refine wpQE_step (fun K hK => ?_); go_simp; refine hK _ ?_; clear hK K)
  refine wpQE_nil ?_
  refine wpE_done (by as_aux_lemma => kernel_rfl) (fun w4 hb4 => ?_) 0
  have h4 : KS = 0 → ∃ A c, v3 = .slice A U.length c ∧ U.length ≤ c ∧ c ≤ maxLen ∧ IsB w4 w4.heap.size A U.length U := fun h => by
    have hu := hU0.out
    rw [if_pos h] at hu
    obtain ⟨A3, c3, e3, h31, h32, h33⟩ := (h3 h).form
    rw [hu] at e3 h31 h33
    exact ⟨A3, c3, e3, h31, h32, h33.on hb4⟩
  have hb5 := hb1.trans ((hb3.mono hb1.size).trans (hb4.mono (Nat.le_trans hb1.size hb3.size)))
  clear hb1 hb3 hb4 h3
  replace hB := hide (hB.out.trans (hb5.mono hB.out.size))
  replace hgt := hide (blk_on hb5 hgt.out)
  replace hg := hide (blk_on hb5 hg.out)
  replace hx := hide (hx.out.on hb5)
  clear hb5
  replace h4 := hide h4
  go_upto_if 32 with fail
  go_cut [13, 14] (fun bv kv wx => kv = .int .i64 (KM : Int) ∧ (KM = 0 → ∃ A c, bv = .slice A U.length c ∧ U.length ≤ c ∧ c ≤ maxLen ∧ IsB wx wx.heap.size A U.length U) ∧ Below w4.heap.size w4 wx)
  case first =>
    by_cases hk : KS = 0
    · subst hk
      obtain rfl : 0 = KM := by have := hK0.out; rwa [if_pos rfl] at this
      go_wp2_with fail
      all_goals go_meet
      all_goals exact ⟨rfl, fun _ => h4.out (by trivial), Below.refl _ _⟩
    · have t1 : ((KS : Int) != 0) = true := by rw [bne_iff_ne]; omega
      obtain rfl : KD = KM := by have := hK0.out; rwa [if_neg hk] at this
      obtain rfl : UD = U := by have := hU0.out; rwa [if_neg hk] at this
      clear hk
      go_upto_region 3 with fail
      have zt4 := blk_lt hgt.out
      have hcl := fun (l : Later w4) (o : Nat) => blk_cell (blk_below l.hb zt4 hgt.out) o
      refine wp_region_L (by as_aux_lemma => kernel_rfl) ?_
      refine wpE_seg 0 3 (fuel := 6) (by as_aux_lemma => kernel_rfl) (fun d _ _ _ _ h => by cases d <;> exact h) (by as_aux_lemma => kernel_rfl) (by as_aux_lemma => kernel_rfl) ?_
      simp only [List.drop_zero, List.take_succ_cons, List.take_zero]
      iterate 2 (refine wpQE_step (fun K hK => ?_); go_simp; refine hK _ ?_; clear hK K)
      (refine wpQE_step (fun K hK => ?_); go_simp; apply Exists.intro; refine ⟨fun l => ?_, hK _ ?_⟩; (go_at_call 10; refine (hCut.out l.w).mono ?_; rintro e w' ⟨rfl, hb⟩; exact ⟨rfl, hb⟩); clear hK K)
      refine wpQE_nil ?_
      clear hcl
      refine wpE_step 3 (fuel := 5) rfl (by as_aux_lemma => kernel_rfl) (fun l K hK => ?_)
      go_simp
      have hb1 := l.hb
      go_at_call 16
      refine (hD.out _ (hx.out.on hb1)).mono ?_
      rintro e w5 ⟨v5, rfl, h5, -, hb3⟩
      refine hK _ _ hb3 ?_
      clear hK K
      refine wpE_seg 4 5 (fuel := 0) (by as_aux_lemma => kernel_rfl) (fun d _ _ _ _ h => by cases d <;> exact h) (by as_aux_lemma => kernel_rfl) (by as_aux_lemma => kernel_rfl) ?_
      simp only [List.drop_succ_cons, List.drop_zero, List.take_succ_cons, List.take_zero]
      iterate 5 (refine wpQE_step (fun K hK => ?_); go_simp; refine hK _ ?_; clear hK K)
      refine wpQE_nil ?_
      refine wpE_done (by as_aux_lemma => kernel_rfl) (fun w6 hb4 => ?_) 0
      have h6 : KD = 0 → ∃ A c, v5 = .slice A UD.length c ∧ UD.length ≤ c ∧ c ≤ maxLen ∧ IsB w6 w6.heap.size A UD.length UD := fun h => by
        obtain ⟨A3, c3, e3, h31, h32, h33⟩ := (h5 h).form
        exact ⟨A3, c3, e3, h31, h32, h33.on hb4⟩
      have hb5 := hb1.trans ((hb3.mono hb1.size).trans (hb4.mono (Nat.le_trans hb1.size hb3.size)))
      clear hb1 hb3 hb4 h5
      replace h6 := hide h6
      replace hb5 := hide hb5
      go_wp2_with fail
      go_meet
      exact ⟨rfl, h6.out, hb5.out⟩
  case rest =>
  obtain ⟨rfl, hb, hb6⟩ := hcut
  clear h4
  clear hx
  replace hB := hide (hB.out.trans (hb6.mono hB.out.size))
  replace hgt := hide (blk_on hb6 hgt.out)
  replace hg := hide (blk_on hb6 hg.out)
  clear hb6
  obtain ⟨A6, c6, rfl, hc6, hm6, hi6⟩ := hb hKn.out
  clear hb
  have t0 : ((KM : Int) != 0) = false := by rw [hKn.out]; rfl
  rw [hUl.out hKn.out] at hc6 hi6 ⊢
  replace hi6 := hide hi6
  have hca := blk_cell hg.out
  go_upto_region 6 with fail
  apply wp_region_lit
  iterate 4 (refine wpList_plain rfl fun K hK => ?_; go_simp; refine hK _ _ ?_; clear hK K)
  clear hca
  refine wpList_plain rfl fun K hK => ?_
  go_simp
  refine (hT.out A6 c6 _ hi6.out hc6 hm6).mono ?_
  rintro e w7 hE
  obtain ⟨v7, rfl, h7, h7n, hb7⟩ := hE
  clear h7
  replace hB := hide (hB.out.trans (hb7.mono hB.out.size))
  replace hgt := hide (blk_on hb7 hgt.out)
  replace hg := hide (blk_on hb7 hg.out)
  replace hi6 := hide (hi6.out.on hb7)
  clear hb7
  go_simp
  refine hK _ _ ?_
  clear hK K
  iterate 5 (refine wpList_plain rfl fun K hK => ?_; go_simp; refine hK _ _ ?_; clear hK K)
  refine wpList_nil ?_
  have t1 : ((KT : Int) != 0) = true := by rw [bne_iff_ne]; omega
  go_wp2_with fail
  refine (awake_any _).mono ?_
  rintro e w10 ⟨rfl, hb10⟩
  replace hB := hide (hB.out.trans (hb10.mono hB.out.size))
  replace hgt := hide (blk_on hb10 hgt.out)
  replace hg := hide (blk_on hb10 hg.out)
  replace hi6 := hide (hi6.out.on hb10)
  clear hb10
  go_wp2_with fail
  go_ret
  exact ⟨by rfl, hB.out⟩
end Nat15
end Go.Proofs.Ytfmmmjaficbchaa
/- The statement NatKeeps, where the packet is turned: the bytes beside the address, the port and the checks are the same. Conditions: what pkt.Segment, pkt.Datagram and nat.Turn make is known. -/
namespace Go.Proofs.Ytfmmmjaficbchaa
open Go.RowKit Go.ChangeShapes Go.WideShapes Go.ChangeAt Go.Deep
namespace Nat15
open Pkt (InEnd End2 pkZ IsG pkG alloc_pk size_pk pkZ_size pkZ_one PIs pkG_one pkA pkA_one tuA tuA_one wrapB dgU)
theorem least_any (v6 : Bool) (w : World) : Calls Try.prog 19 #[.bool v6] w fun e w' => e = .returned (.int .i64 ((if v6 = true then 40 else 20 : Nat) : Int)) ∧ w = w' := by
  rcases v6 with _ | _
  · go_enter Try.func19, Try.ntmps19
    go_wp2_with fail
    go_ret
    exact ⟨rfl, rfl⟩
  · go_enter Try.func19, Try.ntmps19
    go_wp2_with fail
    go_ret
    exact ⟨rfl, rfl⟩
def keepC (at_ e p c i : Nat) : Bool := (decide (at_ ≤ i) && decide (i < e)) || decide (i = p) || decide (i = p + 1) || decide (i = c) || decide (i = c + 1)
theorem keepB_eq (v6 : Bool) (at_ long size s check i : Nat) : keepB v6 at_ long size s check i = (keepC at_ (at_ + long) (size + 2 * s) check i || (!v6 && (decide (i = 10) || decide (i = 11)))) := rfl
theorem dec_eq {k p : Nat} {b : Bool} (h : decide (k = p) = b) : ((k : Int) == (p : Int)) = b := by
  rw [← h, Bool.eq_iff_iff, beq_iff_eq, decide_eq_true_iff]
  omega
set_option maxRecDepth 20000 in
set_option maxHeartbeats 8000000 in
theorem keeps_ok (n0 n c m KS KD KM : Nat) (xs US UD U : List UInt8) (pr : Int) (sv : Bool) (shi slo : Int) (dv : Bool) (dhi dlo sp dp flags : Int) (s : Nat) (tv : Bool) (thi tlo port : Int) (X : List UInt8) (SZ A0 LG AT CK : Nat) (udp : Bool) (hKn : KM = 0) (hXl : X.length = m) (hm : m ≤ 4000) (hs1 : s ≤ 1) (hpr : (pr == 17) = udp) (hSZ : (if sv = true then 40 else 20) = SZ) (hA0 : (if sv = true then 8 else 12) = A0) (hLG : (if sv = true then 16 else 4) = LG) (hAT : A0 + LG * s = AT) (hCK : (if udp = true then SZ + 6 else SZ + 16) = CK) (hsame : ∀ k, k < m → keepB sv AT LG SZ s CK k = false → X[k]? = U[k]?) (A : Option Addr) (w : World) (hx : IsB w w.heap.size A n xs) (hn : min n0 500 = n) (hnc : n0 ≤ c) (hcm : c ≤ maxLen) (hUl : KM = 0 → U.length = m)
    (hK0 : (if KS = 0 then 0 else KD) = KM) (hU0 : (if KS = 0 then US else UD) = U)
    (hS : ∀ w : World, IsB w w.heap.size A n xs → Calls Try.prog 18 #[.agg (tuA pr sv shi slo dv dhi dlo sp dp), .int .i64 64, .int .i64 flags, .slice A n c] w fun e w' => InEnd KS US w w' e)
    (hD : ∀ w : World, IsB w w.heap.size A n xs → Calls Try.prog 16 #[.agg (tuA pr sv shi slo dv dhi dlo sp dp), .int .i64 64, .slice A n c] w fun e w' => InEnd KD UD w w' e)
    (hT : ∀ (A : Option Addr) (c : Nat) (w : World), IsB w w.heap.size A m U → m ≤ c → c ≤ maxLen → Calls Try.prog 11 #[.slice A m c, .int .i64 (s : Int), .agg #[.bool tv, .int .u64 thi, .int .u64 tlo], .int .i64 port] w fun en w' => InEnd 0 X w w' en) :
    Calls Try.prog 6 #[.agg (tuA pr sv shi slo dv dhi dlo sp dp), .int .i64 flags, .slice A n0 c, .int .i64 (s : Int), .agg #[.bool tv, .int .u64 thi, .int .u64 tlo], .int .i64 port] w fun e w' => e = .returned (.bool true) ∧ Below w.heap.size w w' := by
  obtain ⟨w1, hw1⟩ : ∃ w1, w.alloc (.cells (tuA pr sv shi slo dv dhi dlo sp dp) 32) = w1 := ⟨_, rfl⟩
  obtain ⟨w2, hw2⟩ : ∃ w2, w1.alloc (.cells #[.bool tv, .int .u64 thi, .int .u64 tlo] 26) = w2 := ⟨_, rfl⟩
  have hb1 : Below w.heap.size w w1 := hw1 ▸ (Below.refl _ _).alloc (Nat.le_refl _) _
  have hb2 : Below w1.heap.size w1 w2 := hw2 ▸ (Below.refl _ _).alloc (Nat.le_refl _) _
  have hgt := blk_on hb2 (hw1 ▸ blk_new w 32 (tuA pr sv shi slo dv dhi dlo sp dp))
  have hg := hw2 ▸ blk_new w1 26 #[.bool tv, .int .u64 thi, .int .u64 tlo]
  have hB := hb1.trans (hb2.mono hb1.size)
  have zt := blk_lt hgt
  have hn0 : n0 ≤ maxLen := by omega
  have hCut := fun w => Pkt.pcut_b A n0 c n w hn0 hnc hn
  replace hx := hx.on hB
  clear hb1 hb2
  unfold tuA at hw1 hgt hS hD ⊢
  replace hx := hide hx
  replace hS := hide hS
  replace hD := hide hD
  replace hn := hide hn
  replace hCut := hide hCut
  replace hK0 := hide hK0
  replace hU0 := hide hU0
  replace hUl := hide hUl
  replace hT := hide hT
  replace hKn := hide hKn
  replace hXl := hide hXl
  replace hpr := hide hpr
  replace hSZ := hide hSZ
  replace hA0 := hide hA0
  replace hLG := hide hLG
  replace hAT := hide hAT
  replace hCK := hide hCK
  replace hsame := hide hsame
  replace hB := hide hB
  replace hgt := hide hgt
  replace hg := hide hg
  replace hx := hide hx
  go_enter Try.func6, Try.ntmps6
  go_upto_region 1 with fail
  clear hw1 hw2
  have hcl := fun (l : Later w2) (o : Nat) => blk_cell (blk_below l.hb zt hgt.out) o
  refine wp_region_L (by as_aux_lemma => kernel_rfl) ?_
  refine wpE_seg 0 4 (fuel := 6) (by as_aux_lemma => kernel_rfl) (fun d _ _ _ _ h => by cases d <;> exact h) (by as_aux_lemma => kernel_rfl) (by as_aux_lemma => kernel_rfl) ?_
  simp only [List.drop_zero, List.take_succ_cons, List.take_zero]
  iterate 3 (refine wpQE_step (fun K hK => ?_); go_simp; refine hK _ ?_; clear hK K)
  (refine wpQE_step (fun K hK => ?_); go_simp; apply Exists.intro; refine ⟨fun l => ?_, hK _ ?_⟩; (go_at_call 10; refine (hCut.out l.w).mono ?_; rintro e w' ⟨rfl, hb⟩; exact ⟨rfl, hb⟩); clear hK K)
  refine wpQE_nil ?_
  clear hcl
  refine wpE_step 4 (fuel := 5) rfl (by as_aux_lemma => kernel_rfl) (fun l K hK => ?_)
  go_simp
  have hb1 := l.hb
  go_at_call 18
  refine (hS.out _ (hx.out.on hb1)).mono ?_
  rintro e w3 ⟨v3, rfl, h3, -, hb3⟩
  refine hK _ _ hb3 ?_
  clear hK K
  refine wpE_seg 5 5 (fuel := 0) (by as_aux_lemma => kernel_rfl) (fun d _ _ _ _ h => by cases d <;> exact h) (by as_aux_lemma => kernel_rfl) (by as_aux_lemma => kernel_rfl) ?_
  simp only [List.drop_succ_cons, List.drop_zero, List.take_succ_cons, List.take_zero]
  iterate 5 (refine wpQE_step (fun K hK => ?_); go_simp; refine hK _ ?_; clear hK K)
  refine wpQE_nil ?_
  refine wpE_done (by as_aux_lemma => kernel_rfl) (fun w4 hb4 => ?_) 0
  have h4 : KS = 0 → ∃ A c, v3 = .slice A U.length c ∧ U.length ≤ c ∧ c ≤ maxLen ∧ IsB w4 w4.heap.size A U.length U := fun h => by
    have hu := hU0.out
    rw [if_pos h] at hu
    obtain ⟨A3, c3, e3, h31, h32, h33⟩ := (h3 h).form
    rw [hu] at e3 h31 h33
    exact ⟨A3, c3, e3, h31, h32, h33.on hb4⟩
  have hb5 := hb1.trans ((hb3.mono hb1.size).trans (hb4.mono (Nat.le_trans hb1.size hb3.size)))
  clear hb1 hb3 hb4 h3
  replace hB := hide (hB.out.trans (hb5.mono hB.out.size))
  replace hgt := hide (blk_on hb5 hgt.out)
  replace hg := hide (blk_on hb5 hg.out)
  replace hx := hide (hx.out.on hb5)
  clear hb5
  replace h4 := hide h4
  go_upto_if 32 with fail
  go_cut [13, 14] (fun bv kv wx => kv = .int .i64 (KM : Int) ∧ (KM = 0 → ∃ A c, bv = .slice A U.length c ∧ U.length ≤ c ∧ c ≤ maxLen ∧ IsB wx wx.heap.size A U.length U) ∧ Below w4.heap.size w4 wx)
  case first =>
    by_cases hk : KS = 0
    · subst hk
      obtain rfl : 0 = KM := by have := hK0.out; rwa [if_pos rfl] at this
      go_wp2_with fail
      all_goals go_meet
      all_goals exact ⟨rfl, fun _ => h4.out (by trivial), Below.refl _ _⟩
    · have t1 : ((KS : Int) != 0) = true := by rw [bne_iff_ne]; omega
      obtain rfl : KD = KM := by have := hK0.out; rwa [if_neg hk] at this
      obtain rfl : UD = U := by have := hU0.out; rwa [if_neg hk] at this
      clear hk
      go_upto_region 3 with fail
      have zt4 := blk_lt hgt.out
      have hcl := fun (l : Later w4) (o : Nat) => blk_cell (blk_below l.hb zt4 hgt.out) o
      refine wp_region_L (by as_aux_lemma => kernel_rfl) ?_
      refine wpE_seg 0 3 (fuel := 6) (by as_aux_lemma => kernel_rfl) (fun d _ _ _ _ h => by cases d <;> exact h) (by as_aux_lemma => kernel_rfl) (by as_aux_lemma => kernel_rfl) ?_
      simp only [List.drop_zero, List.take_succ_cons, List.take_zero]
      iterate 2 (refine wpQE_step (fun K hK => ?_); go_simp; refine hK _ ?_; clear hK K)
      (refine wpQE_step (fun K hK => ?_); go_simp; apply Exists.intro; refine ⟨fun l => ?_, hK _ ?_⟩; (go_at_call 10; refine (hCut.out l.w).mono ?_; rintro e w' ⟨rfl, hb⟩; exact ⟨rfl, hb⟩); clear hK K)
      refine wpQE_nil ?_
      clear hcl
      refine wpE_step 3 (fuel := 5) rfl (by as_aux_lemma => kernel_rfl) (fun l K hK => ?_)
      go_simp
      have hb1 := l.hb
      go_at_call 16
      refine (hD.out _ (hx.out.on hb1)).mono ?_
      rintro e w5 ⟨v5, rfl, h5, -, hb3⟩
      refine hK _ _ hb3 ?_
      clear hK K
      refine wpE_seg 4 5 (fuel := 0) (by as_aux_lemma => kernel_rfl) (fun d _ _ _ _ h => by cases d <;> exact h) (by as_aux_lemma => kernel_rfl) (by as_aux_lemma => kernel_rfl) ?_
      simp only [List.drop_succ_cons, List.drop_zero, List.take_succ_cons, List.take_zero]
      iterate 5 (refine wpQE_step (fun K hK => ?_); go_simp; refine hK _ ?_; clear hK K)
      refine wpQE_nil ?_
      refine wpE_done (by as_aux_lemma => kernel_rfl) (fun w6 hb4 => ?_) 0
      have h6 : KD = 0 → ∃ A c, v5 = .slice A UD.length c ∧ UD.length ≤ c ∧ c ≤ maxLen ∧ IsB w6 w6.heap.size A UD.length UD := fun h => by
        obtain ⟨A3, c3, e3, h31, h32, h33⟩ := (h5 h).form
        exact ⟨A3, c3, e3, h31, h32, h33.on hb4⟩
      have hb5 := hb1.trans ((hb3.mono hb1.size).trans (hb4.mono (Nat.le_trans hb1.size hb3.size)))
      clear hb1 hb3 hb4 h5
      replace h6 := hide h6
      replace hb5 := hide hb5
      go_wp2_with fail
      go_meet
      exact ⟨rfl, h6.out, hb5.out⟩
  case rest =>
  obtain ⟨rfl, hb, hb6⟩ := hcut
  clear h4
  clear hx
  replace hB := hide (hB.out.trans (hb6.mono hB.out.size))
  replace hgt := hide (blk_on hb6 hgt.out)
  replace hg := hide (blk_on hb6 hg.out)
  clear hb6
  obtain ⟨A6, c6, rfl, hc6, hm6, hi6⟩ := hb hKn.out
  clear hb
  have t0 : ((KM : Int) != 0) = false := by rw [hKn.out]; rfl
  rw [hUl.out hKn.out] at hc6 hi6 ⊢
  replace hi6 := hide hi6
  have hca := blk_cell hg.out
  go_upto_region 6 with fail
  apply wp_region_lit
  iterate 4 (refine wpList_plain rfl fun K hK => ?_; go_simp; refine hK _ _ ?_; clear hK K)
  clear hca
  refine wpList_plain rfl fun K hK => ?_
  go_simp
  refine (hT.out A6 c6 _ hi6.out hc6 hm6).mono ?_
  rintro e w7 hE
  obtain ⟨v7, rfl, h7, h7n, hb7⟩ := hE
  obtain ⟨A7, c7, rfl, hc7, hm7, hi7⟩ := (h7 rfl).form
  rw [hXl.out] at hc7 hi7 ⊢
  clear h7 h7n
  replace hB := hide (hB.out.trans (hb7.mono hB.out.size))
  replace hgt := hide (blk_on hb7 hgt.out)
  replace hg := hide (blk_on hb7 hg.out)
  replace hi6 := hide (hi6.out.on hb7)
  clear hb7
  replace hi7 := hide hi7
  go_simp
  refine hK _ _ ?_
  clear hK K
  iterate 5 (refine wpList_plain rfl fun K hK => ?_; go_simp; refine hK _ _ ?_; clear hK K)
  refine wpList_nil ?_
  have hct := blk_cell hgt.out
  go_upto_if 56 with fail
  go_cut [17, 18, 19] (fun a b d wx => a = .int .i64 (SZ : Int) ∧ b = .int .i64 (A0 : Int) ∧ d = .int .i64 (LG : Int) ∧ w7 = wx)
  case first =>
    have h1 := hSZ.out
    have h2 := hA0.out
    have h3 := hLG.out
    rcases sv with _ | _
    · obtain rfl : 20 = SZ := h1
      obtain rfl : 12 = A0 := h2
      obtain rfl : 4 = LG := h3
      go_wp2_with fail
      go_meet
      exact ⟨rfl, rfl, rfl, rfl⟩
    · obtain rfl : 40 = SZ := h1
      obtain rfl : 8 = A0 := h2
      obtain rfl : 16 = LG := h3
      go_wp2_with fail
      go_meet
      exact ⟨rfl, rfl, rfl, rfl⟩
  case rest =>
  obtain ⟨rfl, rfl, rfl, rfl⟩ := hcut
  have b1 : SZ ≤ 40 := by rw [← hSZ.out]; split <;> omega
  have b2 : A0 ≤ 40 := by rw [← hA0.out]; split <;> omega
  have b3 : LG ≤ 40 := by rw [← hLG.out]; split <;> omega
  have b4 : AT ≤ 80 := by rw [← hAT.out]; have := Nat.mul_le_mul b3 hs1; omega
  have b5 : CK ≤ 80 := by rw [← hCK.out]; split <;> omega
  go_upto_if 58 with fail
  go_cut [18] (fun b wx => b = .int .i64 (AT : Int) ∧ w7 = wx)
  case first =>
    have h1 := hAT.out
    have h01 : s = 0 ∨ s = 1 := by omega
    clear hct
    rcases h01 with rfl | rfl
    · obtain rfl : A0 = AT := by omega
      go_wp2_with fail
      go_meet
      exact ⟨rfl, rfl⟩
    · have q1 : IntKind.i64.wrap ((A0 : Int) + (LG : Int)) = (AT : Int) := by rw [wraps62 _ (by omega) (by omega)]; omega
      go_wp2_with fail
      go_meet
      exact ⟨rfl, rfl⟩
  case rest =>
  obtain ⟨rfl, rfl⟩ := hcut
  have q6 : IntKind.i64.wrap ((SZ : Int) + 6) = (SZ : Int) + 6 := wraps62 _ (by omega) (by omega)
  have q16 : IntKind.i64.wrap ((SZ : Int) + 16) = (SZ : Int) + 16 := wraps62 _ (by omega) (by omega)
  go_upto_if 66 with fail
  go_cut [20] (fun b wx => b = .int .i64 (CK : Int) ∧ w7 = wx)
  case first =>
    have h1 := hCK.out
    have h2 := hpr.out
    rcases udp with _ | _
    · obtain rfl : SZ + 16 = CK := h1
      go_wp2_with fail
      go_meet
      exact ⟨by rw [Int.natCast_add]; rfl, rfl⟩
    · obtain rfl : SZ + 6 = CK := h1
      go_wp2_with fail
      go_meet
      exact ⟨by rw [Int.natCast_add]; rfl, rfl⟩
  case rest =>
  obtain ⟨rfl, rfl⟩ := hcut
  clear q6 q16
  have t3 : ((m : Int) != (m : Int)) = false := by simp
  have t4 : ((SZ : Int) != (SZ : Int)) = false := by simp
  go_upto_region 17 with fail
  go_wp2_with fail
  refine (least_any sv _).mono ?_
  rintro e w8 ⟨rfl, rfl⟩
  rw [hSZ.out]
  go_wp2_with fail
  clear hct t3 t4
  go_loopw [21] (fun i wr => ∃ k : Nat, k ≤ m ∧ i = .int .i64 (k : Int) ∧ Below w7.heap.size w7 wr) (fun i _ => m - (intOf i).toNat)
  case atStart => exact ⟨0, Nat.zero_le _, rfl, Below.refl _ _⟩
  case round =>
    obtain ⟨k, hk, rfl, hbr⟩ := hrel
    by_cases hlt : k < m
    · have q1 : (k : Int) < (m : Int) := by omega
      have q2 : (0 : Int) ≤ (k : Int) := by omega
      have qE : IntKind.i64.wrap ((AT : Int) + (LG : Int)) = ((AT + LG : Nat) : Int) := by rw [wraps62 _ (by omega) (by omega)]; omega
      have q2s : IntKind.i64.wrap (2 * (s : Int)) = 2 * (s : Int) := wraps62 _ (by omega) (by omega)
      have qP : IntKind.i64.wrap ((SZ : Int) + 2 * (s : Int)) = ((SZ + 2 * s : Nat) : Int) := by rw [wraps62 _ (by omega) (by omega)]; omega
      have qP1 : IntKind.i64.wrap (((SZ + 2 * s : Nat) : Int) + 1) = ((SZ + 2 * s + 1 : Nat) : Int) := by rw [wraps62 _ (by omega) (by omega)]; omega
      have qC1 : IntKind.i64.wrap ((CK : Int) + 1) = ((CK + 1 : Nat) : Int) := by rw [wraps62 _ (by omega) (by omega)]; omega
      obtain ⟨E, hE⟩ : ∃ E, AT + LG = E := ⟨_, rfl⟩
      obtain ⟨P, hP⟩ : ∃ E, SZ + 2 * s = E := ⟨_, rfl⟩
      obtain ⟨P1, hP1⟩ : ∃ E, P + 1 = E := ⟨_, rfl⟩
      obtain ⟨C1, hC1⟩ : ∃ E, CK + 1 = E := ⟨_, rfl⟩
      rw [hE] at qE
      rw [hP] at qP qP1
      rw [hP1] at qP1
      rw [hC1] at qC1
      obtain ⟨ta, hta⟩ : ∃ ta, keepC AT E P CK k = ta := ⟨_, rfl⟩
      obtain ⟨tb, htb⟩ : ∃ tb, (ta || (!sv && (decide (k = 10) || decide (k = 11)))) = tb := ⟨_, rfl⟩
      have hkb : keepB sv AT LG SZ s CK k = tb := by rw [keepB_eq, hE, hP, hta, htb]
      replace hbr := hide hbr
      replace hta := hide hta
      replace htb := hide htb
      replace hkb := hide hkb
      replace hE := hide hE
      replace hP := hide hP
      replace hP1 := hide hP1
      replace hC1 := hide hC1
      go_upto_region 22 with fail
      go_cut [22] (fun bv wx => bv = .bool ta ∧ wr = wx)
      case first =>
        have ht := hta.out
        unfold keepC at ht
        rw [hP1.out, hC1.out] at ht
        obtain ⟨e1, he1⟩ : ∃ b, decide (k = P) = b := ⟨_, rfl⟩
        obtain ⟨e2, he2⟩ : ∃ b, decide (k = P1) = b := ⟨_, rfl⟩
        obtain ⟨e3, he3⟩ : ∃ b, decide (k = CK) = b := ⟨_, rfl⟩
        obtain ⟨e4, he4⟩ : ∃ b, decide (k = C1) = b := ⟨_, rfl⟩
        rw [he1, he2, he3, he4] at ht
        have t1 := dec_eq he1
        have t2 := dec_eq he2
        have t3 := dec_eq he3
        have t4 := dec_eq he4
        clear he1 he2 he3 he4
        have hc : (AT ≤ k ∧ k < E) ∨ (AT ≤ k ∧ ¬ k < E) ∨ ¬ AT ≤ k := by omega
        rcases hc with ⟨c1, c2⟩ | ⟨c1, c2⟩ | c1
        · rw [decide_eq_true c1, decide_eq_true c2] at ht
          obtain rfl : true = ta := by rw [← ht]; simp
          have g1 : (AT : Int) ≤ (k : Int) := by omega
          have g2 : (k : Int) < (E : Int) := by omega
          clear ht c1 c2 t1 t2 t3 t4
          go_wp2_with fail
          go_meet
          exact ⟨rfl, rfl⟩
        · rw [decide_eq_true c1, decide_eq_false c2] at ht
          have g1 : (AT : Int) ≤ (k : Int) := by omega
          have g2 : ¬ (k : Int) < (E : Int) := by omega
          clear c1 c2
          rcases e1 with _ | _
          · skip
            rcases e2 with _ | _
            · skip
              rcases e3 with _ | _
              · skip
                rcases e4 with _ | _
                · skip
                  obtain rfl : false = ta := by rw [← ht]; rfl
                  clear ht 
                  go_wp2_with fail
                  go_meet
                  exact ⟨rfl, rfl⟩
                · skip
                  obtain rfl : true = ta := by rw [← ht]; rfl
                  clear ht 
                  go_wp2_with fail
                  go_meet
                  exact ⟨rfl, rfl⟩
              · skip
                obtain rfl : true = ta := by rw [← ht]; rfl
                clear ht t4
                go_wp2_with fail
                go_meet
                exact ⟨rfl, rfl⟩
            · skip
              obtain rfl : true = ta := by rw [← ht]; rfl
              clear ht t3 t4
              go_wp2_with fail
              go_meet
              exact ⟨rfl, rfl⟩
          · skip
            obtain rfl : true = ta := by rw [← ht]; rfl
            clear ht t2 t3 t4
            go_wp2_with fail
            go_meet
            exact ⟨rfl, rfl⟩
        · rw [decide_eq_false c1] at ht
          have g1 : ¬ (AT : Int) ≤ (k : Int) := by omega
          clear c1
          rcases e1 with _ | _
          · skip
            rcases e2 with _ | _
            · skip
              rcases e3 with _ | _
              · skip
                rcases e4 with _ | _
                · skip
                  obtain rfl : false = ta := by rw [← ht]; rfl
                  clear ht 
                  go_wp2_with fail
                  go_meet
                  exact ⟨rfl, rfl⟩
                · skip
                  obtain rfl : true = ta := by rw [← ht]; rfl
                  clear ht 
                  go_wp2_with fail
                  go_meet
                  exact ⟨rfl, rfl⟩
              · skip
                obtain rfl : true = ta := by rw [← ht]; rfl
                clear ht t4
                go_wp2_with fail
                go_meet
                exact ⟨rfl, rfl⟩
            · skip
              obtain rfl : true = ta := by rw [← ht]; rfl
              clear ht t3 t4
              go_wp2_with fail
              go_meet
              exact ⟨rfl, rfl⟩
          · skip
            obtain rfl : true = ta := by rw [← ht]; rfl
            clear ht t2 t3 t4
            go_wp2_with fail
            go_meet
            exact ⟨rfl, rfl⟩
      case rest =>
      obtain ⟨rfl, rfl⟩ := hcut
      clear qE q2s qP qP1 qC1 hta hE hP hP1 hC1
      have hgr := blk_on hbr.out hgt.out
      have hct := blk_cell hgr
      clear hgr
      go_upto_if 129 with fail
      go_cut [22] (fun bv wx => bv = .bool tb ∧ wr = wx)
      case first =>
        have ht := htb.out
        rcases sv with _ | _
        · obtain ⟨e1, he1⟩ : ∃ b, decide (k = 10) = b := ⟨_, rfl⟩
          obtain ⟨e2, he2⟩ : ∃ b, decide (k = 11) = b := ⟨_, rfl⟩
          rw [he1, he2] at ht
          have t1 : ((k : Int) == 10) = e1 := dec_eq he1
          have t2 : ((k : Int) == 11) = e2 := dec_eq he2
          clear he1 he2
          rcases ta with _ | _
          · rcases e1 with _ | _
            · rcases e2 with _ | _
              · obtain rfl : false = tb := by rw [← ht]; rfl
                clear ht
                go_wp2_with fail
                go_meet
                exact ⟨rfl, rfl⟩
              · obtain rfl : true = tb := by rw [← ht]; rfl
                clear ht
                go_wp2_with fail
                go_meet
                exact ⟨rfl, rfl⟩
            · obtain rfl : true = tb := by rw [← ht]; rfl
              clear ht t2
              go_wp2_with fail
              go_meet
              exact ⟨rfl, rfl⟩
          · obtain rfl : true = tb := by rw [← ht]; rfl
            clear ht t1 t2
            go_wp2_with fail
            go_meet
            exact ⟨rfl, rfl⟩
        · obtain rfl : ta = tb := by rw [← ht]; simp
          clear ht
          go_wp2_with fail
          go_meet
          exact ⟨rfl, rfl⟩
      case rest =>
      obtain ⟨rfl, rfl⟩ := hcut
      clear hct htb
      have hA := hi6.out.on hbr.out
      have hX := hi7.out.on hbr.out
      obtain ⟨bA, oA, rfl, -⟩ := hA.2 (by omega)
      obtain ⟨bX, oX, rfl, -⟩ := hX.2 (by omega)
      obtain ⟨vb, hvb, hvbl, hcb⟩ := hA.byteAt (i := k) hlt
      obtain ⟨vx, hvx, hvxl, hcx⟩ := hX.byteAt (i := k) hlt
      clear hA hX
      replace hvb := hide hvb
      replace hvx := hide hvx
      go_upto_region 25 with fail
      rcases tb with _ | _
      · have hvv : vx = vb := by
          have e := getD_of_get (hsame.out k hlt hkb.out)
          rw [← hvx.out, ← hvb.out, e]
        subst hvv
        have hcbL := fun l : Later wr => l.cell hcb
        have hcxL := fun l : Later wr => l.cell hcx
        clear hcb hcx
        refine wp_region_L (by as_aux_lemma => kernel_rfl) ?_
        refine wpE_seg 0 13 (fuel := 0) (by as_aux_lemma => kernel_rfl) (fun d _ _ _ _ h => by cases d <;> exact h) (by as_aux_lemma => kernel_rfl) (by as_aux_lemma => kernel_rfl) ?_
        simp only [List.drop_zero, List.take_succ_cons, List.take_zero]
        iterate 13 (refine wpQE_step (fun K hK => ?_); go_simp; refine hK _ ?_; clear hK K)
        refine wpQE_nil ?_
        refine wpE_done (by as_aux_lemma => kernel_rfl) (fun w5 hb5 => ?_) 0
        have hb6 := hbr.out.trans (hb5.mono hbr.out.size)
        clear hcbL hcxL hb5
        replace hb6 := hide hb6
        go_wp2_with fail
        go_roundw
        case rel => exact ⟨k + 1, by omega, by go_num, hb6.out⟩
        case measure => simp [intOf]; omega
      · clear hcb hcx
        refine wp_region_L (by as_aux_lemma => kernel_rfl) ?_
        refine wpE_seg 0 13 (fuel := 0) (by as_aux_lemma => kernel_rfl) (fun d _ _ _ _ h => by cases d <;> exact h) (by as_aux_lemma => kernel_rfl) (by as_aux_lemma => kernel_rfl) ?_
        simp only [List.drop_zero, List.take_succ_cons, List.take_zero]
        iterate 2 (refine wpQE_step (fun K hK => ?_); go_simp; refine hK _ ?_; clear hK K)
        refine wpQE_val_skip (.bool false) 9 rfl (fun l => rfl) (by as_aux_lemma => kernel_rfl) ?_
        dsimp only [putU, List.take_succ_cons, List.take_zero, List.drop_succ_cons, List.drop_zero, Act.put]
        iterate 1 (refine wpQE_step (fun K hK => ?_); go_simp; refine hK _ ?_; clear hK K)
        refine wpQE_nil ?_
        refine wpE_done (by as_aux_lemma => kernel_rfl) (fun w5 hb5 => ?_) 0
        have hb6 := hbr.out.trans (hb5.mono hbr.out.size)
        clear hb5
        replace hb6 := hide hb6
        go_wp2_with fail
        go_roundw
        case rel => exact ⟨k + 1, by omega, by go_num, hb6.out⟩
        case measure => simp [intOf]; omega
    · obtain rfl : m = k := by omega
      replace hB := hide (hB.out.trans (hbr.mono hB.out.size))
      have q1 : ¬ (m : Int) < (m : Int) := by omega
      clear hlt hk hbr
      go_wp2_with fail
      refine (awake_any _).mono ?_
      rintro e w10 ⟨rfl, hb10⟩
      replace hB := hide (hB.out.trans (hb10.mono hB.out.size))
      clear hb10
      go_wp2_with fail
      go_ret
      exact ⟨by rfl, hB.out⟩
end Nat15
end Go.Proofs.Ytfmmmjaficbchaa
/- The statement NatKeeps, walked whole. Conditions: a slice of bytes that reads as a list, numbers of 64 bits. -/
namespace Go.Proofs.Ytfmmmjaficbchaa
open Go.RowKit Go.ChangeShapes Go.WideShapes Go.ChangeAt Go.Deep
namespace Nat15
open Pkt (InEnd PIs pkA pkG tuA wrapB dgU sgU dgU_length sgU_length dgmK sgmK madeP)
theorem keeps_made4 (n0 n c m KS KD KM : Nat) (xs US UD U : List UInt8) {R : List UInt8} {udp : Bool} (pr : Int) (slo dlo sp dp fl : Nat) {l1 l2 p1 p2 ttl f1 : Nat} (flags s : Int) (tv : Bool) (thi tlo : Nat) (port : Int) (h : Turn4 m U m 20 udp R l1 l2 p1 p2 ttl f1) (hpr : (pr == 17) = udp) (hm : m ≤ 4000) (hKn : KM = 0) (A : Option Addr) (w : World) (hx : IsB w w.heap.size A n xs) (hn : min n0 500 = n) (hnc : n0 ≤ c) (hcm : c ≤ maxLen)
    (hK0 : (if KS = 0 then 0 else KD) = KM) (hU0 : (if KS = 0 then US else UD) = U)
    (hS : ∀ w : World, IsB w w.heap.size A n xs → Calls Try.prog 18 #[.agg (tuA pr false ((0 : Nat) : Int) slo false ((0 : Nat) : Int) dlo sp dp), .int .i64 64, .int .i64 flags, .slice A n c] w fun e w' => InEnd KS US w w' e)
    (hD : ∀ w : World, IsB w w.heap.size A n xs → Calls Try.prog 16 #[.agg (tuA pr false ((0 : Nat) : Int) slo false ((0 : Nat) : Int) dlo sp dp), .int .i64 64, .slice A n c] w fun e w' => InEnd KD UD w w' e) :
    Calls Try.prog 6 #[.agg (tuA pr false ((0 : Nat) : Int) slo false ((0 : Nat) : Int) dlo sp dp), .int .i64 flags, .slice A n0 c, .int .i64 s, .agg #[.bool tv, .int .u64 (thi : Int), .int .u64 (tlo : Int)], .int .i64 port] w fun e w' => e = .returned (.bool true) ∧ Below w.heap.size w w' := by
  have hP := h.pis hm
  have hUl : U.length = m := h.ok.len
  by_cases hb1 : (s ≠ 0 ∧ s ≠ 1) ∨ port < 0 ∨ 65535 < port ∨ false = true
  · exact keeps_no2 n0 n c m KS KD KM xs US UD U pr _ _ _ _ _ _ _ _ flags s tv thi tlo port 1 [] hKn (by omega) A w hx hn hnc hcm (fun _ => hUl) hK0 hU0 hS hD
      (fun A c w hx hnc hcm => turn_arg _ c _ [] _ _ _ _ _ _ _ _ _ _ _ _ _ _ _ _ _ _ _ _ _ _ _ _ rfl s tv thi tlo port hb1 A w hx hnc hcm hP)
  by_cases hb2 : tv ≠ false ∨ Four.okA tv (thi : Int) (tlo : Int) = false
  · exact keeps_no2 n0 n c m KS KD KM xs US UD U pr _ _ _ _ _ _ _ _ flags s tv thi tlo port 18 [] hKn (by omega) A w hx hn hnc hcm (fun _ => hUl) hK0 hU0 hS hD
      (fun A c w hx hnc hcm => turn_addr _ c _ [] _ _ _ _ _ _ _ _ _ _ _ _ _ _ _ _ _ _ _ _ _ _ _ rfl s tv thi tlo port (by omega) (by omega) (by omega) hb2 A w hx hnc hcm hP)
  obtain rfl : tv = false := by
    by_cases ht : tv = false
    · exact ht
    · exact absurd (.inl ht) hb2
  have hok : Four.okA false (thi : Int) (tlo : Int) = true := by
    cases ho : Four.okA false (thi : Int) (tlo : Int) with
    | true => rfl
    | false => exact absurd (.inr ho) hb2
  obtain ⟨t0, t1⟩ := Pkt.okA_four hok
  obtain rfl : thi = 0 := by omega
  obtain ⟨pN, rfl⟩ : ∃ k : Nat, port = (k : Int) := ⟨port.toNat, by omega⟩
  obtain ⟨sN, rfl⟩ : ∃ k : Nat, s = (k : Int) := ⟨s.toNat, by omega⟩
  have hs1 : sN ≤ 1 := by omega
  have h2 := h.turn sN tlo pN hs1 t1 (by omega)
  obtain ⟨was, hw⟩ : ∃ was, (if sN = 0 then l1 else l2) = was := ⟨_, rfl⟩
  rw [hw] at h2
  exact keeps_ok n0 n c m KS KD KM xs US UD U pr _ _ _ _ _ _ _ _ flags sN false _ tlo pN (natB4 U m 20 udp R sN tlo pN was) 20 12 4 (12 + 4 * sN) (20 + whR udp) udp hKn h2.ok.len hm hs1 hpr rfl rfl rfl rfl (by unfold whR; split <;> rfl)
    (fun k _ hk => keeps4 h sN tlo pN was hs1 t1 k hk) A w hx hn hnc hcm (fun _ => hUl) hK0 hU0 hS hD
    (fun A c w hx hnc hcm => turn4_any h hm sN tlo pN was hs1 hw t1 (by omega) A c w hx hnc hcm)
theorem keeps_made6 (n0 n c m KS KD KM : Nat) (xs US UD U : List UInt8) {R : List UInt8} {acc : List (Int × List UInt8)} {udp : Bool} (pr : Int) (shi slo dhi dlo sp dp fl : Nat) {k1 l1 k2 l2 p1 p2 ttl f1 : Nat} (flags s : Int) (tv : Bool) (thi tlo : Nat) (b1 : thi < 18446744073709551616) (b2 : tlo < 18446744073709551616) (port : Int) (h : Turn6 m U acc 40 udp R k1 l1 k2 l2 p1 p2 ttl f1) (hR : 40 + R.length = m) (hpr : (pr == 17) = udp) (hm : m ≤ 4000) (hKn : KM = 0) (A : Option Addr) (w : World) (hx : IsB w w.heap.size A n xs) (hn : min n0 500 = n) (hnc : n0 ≤ c) (hcm : c ≤ maxLen)
    (hK0 : (if KS = 0 then 0 else KD) = KM) (hU0 : (if KS = 0 then US else UD) = U)
    (hS : ∀ w : World, IsB w w.heap.size A n xs → Calls Try.prog 18 #[.agg (tuA pr true shi slo true dhi dlo sp dp), .int .i64 64, .int .i64 flags, .slice A n c] w fun e w' => InEnd KS US w w' e)
    (hD : ∀ w : World, IsB w w.heap.size A n xs → Calls Try.prog 16 #[.agg (tuA pr true shi slo true dhi dlo sp dp), .int .i64 64, .slice A n c] w fun e w' => InEnd KD UD w w' e) :
    Calls Try.prog 6 #[.agg (tuA pr true shi slo true dhi dlo sp dp), .int .i64 flags, .slice A n0 c, .int .i64 s, .agg #[.bool tv, .int .u64 (thi : Int), .int .u64 (tlo : Int)], .int .i64 port] w fun e w' => e = .returned (.bool true) ∧ Below w.heap.size w w' := by
  have hP := h.pis hm
  have hUl : U.length = m := h.ok.len
  by_cases hb1 : (s ≠ 0 ∧ s ≠ 1) ∨ port < 0 ∨ 65535 < port ∨ false = true
  · exact keeps_no2 n0 n c m KS KD KM xs US UD U pr _ _ _ _ _ _ _ _ flags s tv thi tlo port 1 [] hKn (by omega) A w hx hn hnc hcm (fun _ => hUl) hK0 hU0 hS hD
      (fun A c w hx hnc hcm => turn_arg _ c _ [] _ _ _ _ _ _ _ _ _ _ _ _ _ _ _ _ _ _ _ _ _ _ _ _ rfl s tv thi tlo port hb1 A w hx hnc hcm hP)
  by_cases hb2 : tv ≠ true ∨ Four.okA tv (thi : Int) (tlo : Int) = false
  · exact keeps_no2 n0 n c m KS KD KM xs US UD U pr _ _ _ _ _ _ _ _ flags s tv thi tlo port 18 [] hKn (by omega) A w hx hn hnc hcm (fun _ => hUl) hK0 hU0 hS hD
      (fun A c w hx hnc hcm => turn_addr _ c _ [] _ _ _ _ _ _ _ _ _ _ _ _ _ _ _ _ _ _ _ _ _ _ _ rfl s tv thi tlo port (by omega) (by omega) (by omega) hb2 A w hx hnc hcm hP)
  obtain rfl : tv = true := by
    by_cases ht : tv = true
    · exact ht
    · exact absurd (.inl ht) hb2
  obtain ⟨pN, rfl⟩ : ∃ k : Nat, port = (k : Int) := ⟨port.toNat, by omega⟩
  obtain ⟨sN, rfl⟩ : ∃ k : Nat, s = (k : Int) := ⟨s.toNat, by omega⟩
  have hs1 : sN ≤ 1 := by omega
  have h2 := h.turn sN thi tlo pN hs1 b1 b2 (by omega)
  obtain ⟨whi, hwh⟩ : ∃ was, (if sN = 0 then k1 else k2) = was := ⟨_, rfl⟩
  obtain ⟨wlo, hwl⟩ : ∃ was, (if sN = 0 then l1 else l2) = was := ⟨_, rfl⟩
  rw [hwh, hwl] at h2
  exact keeps_ok n0 n c m KS KD KM xs US UD U pr _ _ _ _ _ _ _ _ flags sN true thi tlo pN (natB6 U 40 udp R sN thi tlo pN whi wlo) 40 8 16 (8 + 16 * sN) (40 + whR udp) udp hKn (h2.ok.len.trans hR) hm hs1 hpr rfl rfl rfl rfl (by unfold whR; split <;> rfl)
    (fun k _ hk => keeps6 h hR sN thi tlo pN whi wlo hs1 b1 b2 k hk) A w hx hn hnc hcm (fun _ => hUl) hK0 hU0 hS hD
    (fun A c w hx hnc hcm => turn6_any h hm sN thi tlo pN whi wlo hs1 hwh hwl b1 b2 (by omega) A c w hx hnc hcm)
theorem keeps_any (n0 n c : Nat) (xs : List UInt8) (pr : Int) (sv : Bool) (shi slo : Nat) (dv : Bool) (dhi dlo : Nat) (sp dp flags s : Int) (tv : Bool) (thi tlo : Nat) (port : Int) (h4 : shi < 18446744073709551616) (h5 : slo < 18446744073709551616) (h6 : dhi < 18446744073709551616) (h7 : dlo < 18446744073709551616) (b1 : thi < 18446744073709551616) (b2 : tlo < 18446744073709551616) (A : Option Addr) (w : World) (hx : IsB w w.heap.size A n xs) (hn : min n0 500 = n) (hnc : n0 ≤ c) (hcm : c ≤ maxLen) :
    Calls Try.prog 6 #[.agg (tuA pr sv shi slo dv dhi dlo sp dp), .int .i64 flags, .slice A n0 c, .int .i64 s, .agg #[.bool tv, .int .u64 (thi : Int), .int .u64 (tlo : Int)], .int .i64 port] w fun e w' => e = .returned (.bool true) ∧ Below w.heap.size w w' := by
  have hS := fun w hx => Pkt.segment_any pr sv shi slo dv dhi dlo sp dp 64 flags A n c xs w hx (by omega) h4 h5 h6 h7
  have hD := fun w hx => Pkt.datagram_any pr sv shi slo dv dhi dlo sp dp 64 A n c xs w hx (by omega) h4 h5 h6 h7
  have hxl := hx.1
  by_cases hks : sgmK pr sv shi slo dv dhi dlo sp dp flags 64 = 0
  · obtain ⟨rfl, rfl, _, _, r1, r2, r3, r4, r5, r6, r7⟩ := (Pkt.sgm_made pr sv shi slo dv dhi dlo sp dp 64 flags).2 hks
    obtain ⟨a, rfl⟩ : ∃ k : Nat, sp = (k : Int) := ⟨sp.toNat, by omega⟩
    obtain ⟨b, rfl⟩ : ∃ k : Nat, dp = (k : Int) := ⟨dp.toNat, by omega⟩
    obtain ⟨f, rfl⟩ : ∃ k : Nat, flags = (k : Int) := ⟨flags.toNat, by omega⟩
    rw [hks] at hS
    rcases sv with _ | _
    · obtain ⟨r8, r9, r10, r11⟩ : (shi : Int) = 0 ∧ (dhi : Int) = 0 ∧ (slo : Int) < 4294967296 ∧ (dlo : Int) < 4294967296 := by
        rcases r7 with h | h
        · cases h
        · exact h
      obtain rfl : shi = 0 := by omega
      obtain rfl : dhi = 0 := by omega
      have hT := turn_sg4 slo dlo a b f 64 xs _ rfl (by omega) (by omega) (by omega) (by omega) (by omega) (by omega) (by omega)
      exact keeps_made4 n0 n c _ 0 _ 0 xs _ _ _ 6 slo dlo a b f f s tv thi tlo port hT rfl (by omega) rfl A w hx hn hnc hcm rfl rfl hS hD
    · have hT := turn_sg6 shi slo dhi dlo a b f 64 xs _ rfl h4 h5 h6 h7 (by omega) (by omega) (by omega) (by omega) (by omega)
      exact keeps_made6 n0 n c _ 0 _ 0 xs _ _ _ 6 shi slo dhi dlo a b f f s tv thi tlo b1 b2 port hT (by rw [sgU_length]; omega) rfl (by omega) rfl A w hx hn hnc hcm rfl rfl hS hD
  by_cases hkd : dgmK pr sv shi slo dv dhi dlo sp dp 64 = 0
  · obtain ⟨rfl, rfl, _, _, r1, r2, r3, r4, _, _, r7⟩ := (Pkt.dgm_made pr sv shi slo dv dhi dlo sp dp 64).2 hkd
    obtain ⟨a, rfl⟩ : ∃ k : Nat, sp = (k : Int) := ⟨sp.toNat, by omega⟩
    obtain ⟨b, rfl⟩ : ∃ k : Nat, dp = (k : Int) := ⟨dp.toNat, by omega⟩
    rw [hkd] at hD
    rcases sv with _ | _
    · obtain ⟨r8, r9, r10, r11⟩ : (shi : Int) = 0 ∧ (dhi : Int) = 0 ∧ (slo : Int) < 4294967296 ∧ (dlo : Int) < 4294967296 := by
        rcases r7 with h | h
        · cases h
        · exact h
      obtain rfl : shi = 0 := by omega
      obtain rfl : dhi = 0 := by omega
      have hT := turn_dg4 slo dlo a b 64 xs _ rfl (by omega) (by omega) (by omega) (by omega) (by omega) (by omega)
      exact keeps_made4 n0 n c _ _ 0 0 xs _ _ _ 17 slo dlo a b 0 flags s tv thi tlo port hT rfl (by omega) rfl A w hx hn hnc hcm (if_neg hks) (if_neg hks) hS hD
    · have hT := turn_dg6 shi slo dhi dlo a b 64 xs _ rfl h4 h5 h6 h7 (by omega) (by omega) (by omega) (by omega)
      exact keeps_made6 n0 n c _ _ 0 0 xs _ _ _ 17 shi slo dhi dlo a b 0 flags s tv thi tlo b1 b2 port hT (by rw [dgU_length]; omega) rfl (by omega) rfl A w hx hn hnc hcm (if_neg hks) (if_neg hks) hS hD
  exact keeps_no n0 n c 0 _ _ _ xs _ _ _ pr sv shi slo dv dhi dlo sp dp flags s tv thi tlo port hkd A w hx hn hnc hcm (fun h => absurd h hkd) (if_neg hks) (if_neg hks) hS hD trivial
theorem keeps_walk (pr : Int) (sv : Bool) (shi slo : Int) (dv : Bool) (dhi dlo : Int) (sp dp flags : Int) (A : Option Addr) (n0 c : Nat) (xs : List UInt8) (s : Int) (tv : Bool) (thi tlo : Int) (port : Int) (w : World) (_ : (Lit.int .i64 pr).wf = true) (h1 : (Lit.int .u64 shi).wf = true) (h2 : (Lit.int .u64 slo).wf = true) (h3 : (Lit.int .u64 dhi).wf = true) (h4 : (Lit.int .u64 dlo).wf = true)
    (_ : (Lit.int .i64 sp).wf = true) (_ : (Lit.int .i64 dp).wf = true) (_ : (Lit.int .i64 flags).wf = true) (hx : IsB w w.heap.size A n0 xs) (hnc : n0 ≤ c) (hcm : c ≤ maxLen) (_ : (Lit.int .i64 s).wf = true) (h5 : (Lit.int .u64 thi).wf = true) (h6 : (Lit.int .u64 tlo).wf = true) (_ : (Lit.int .i64 port).wf = true) :
    Calls Try.prog 6 #[.agg #[.int .i64 pr, .bool sv, .int .u64 shi, .int .u64 slo, .bool dv, .int .u64 dhi, .int .u64 dlo, .int .i64 sp, .int .i64 dp], .int .i64 flags, .slice A n0 c, .int .i64 s, .agg #[.bool tv, .int .u64 thi, .int .u64 tlo], .int .i64 port] w fun e w' => e = .returned (.bool true) ∧ Below w.heap.size w w' := by
  have q1 := u64_wf h1
  have q2 := u64_wf h2
  have q3 := u64_wf h3
  have q4 := u64_wf h4
  have q5 := u64_wf h5
  have q6 := u64_wf h6
  obtain ⟨a1, rfl⟩ : ∃ a : Nat, shi = (a : Int) := ⟨shi.toNat, by omega⟩
  obtain ⟨a2, rfl⟩ : ∃ a : Nat, slo = (a : Int) := ⟨slo.toNat, by omega⟩
  obtain ⟨a3, rfl⟩ : ∃ a : Nat, dhi = (a : Int) := ⟨dhi.toNat, by omega⟩
  obtain ⟨a4, rfl⟩ : ∃ a : Nat, dlo = (a : Int) := ⟨dlo.toNat, by omega⟩
  obtain ⟨a5, rfl⟩ : ∃ a : Nat, thi = (a : Int) := ⟨thi.toNat, by omega⟩
  obtain ⟨a6, rfl⟩ : ∃ a : Nat, tlo = (a : Int) := ⟨tlo.toNat, by omega⟩
  exact keeps_any n0 _ c _ pr sv a1 a2 dv a3 a4 sp dp flags s tv a5 a6 port (by omega) (by omega) (by omega) (by omega) (by omega) (by omega) A w (hx.take (m := min n0 500) (by omega)) rfl hnc hcm
end Nat15
end Go.Proofs.Ytfmmmjaficbchaa
