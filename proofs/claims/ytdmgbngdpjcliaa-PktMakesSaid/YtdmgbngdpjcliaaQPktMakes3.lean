/- The statement PktMakes, walked where a segment can be made. Conditions: a slice of bytes that reads as a list, numbers of 64 bits. (Written by gen_pktmakes.py) -/
import Derived.Test.YtdmgbngdpjcliaaQPktMakes2
namespace Go.Proofs.Ytdmgbngdpjcliaa
open Go.RowKit Go.ChangeShapes Go.WideShapes Go.ChangeAt Go.Deep
namespace Pkt
set_option maxRecDepth 20000 in
set_option maxHeartbeats 8000000 in
theorem makes_sgm (sv : Bool) (shi slo : Nat) (dhi dlo : Nat) (sp dp ttl fl : Int) (A : Option Addr) (n0 n c : Nat) (xs : List UInt8) (w : World) (hx : IsB w w.heap.size A n xs) (hn : min n0 500 = n) (hnc : n0 ≤ c) (hcm : c ≤ maxLen)
    (h4 : shi < 18446744073709551616) (h5 : slo < 18446744073709551616) (h6 : dhi < 18446744073709551616) (h7 : dlo < 18446744073709551616)
    (hk : sgmK 6 sv shi slo sv dhi dlo sp dp fl ttl = 0) (sz : Nat) (hsz : (if sv = true then 40 else 20) = sz) (m : Nat) (hm : sz + 20 + n = m) (hr : (0 ≤ sp ∧ sp ≤ 65535) ∧ (0 ≤ dp ∧ dp ≤ 65535) ∧ 0 ≤ fl ∧ fl ≤ 255) :
    Calls Try.prog 9 #[.agg (tuA 6 sv shi slo sv dhi dlo sp dp), .int .i64 ttl, .int .i64 fl, .slice A n0 c] w fun e w' => e = .returned (.bool true) ∧ Below w.heap.size w w' := by
  obtain ⟨w1, hw1⟩ : ∃ w1, w.alloc (.cells (tuA 6 sv shi slo sv dhi dlo sp dp) 56) = w1 := ⟨_, rfl⟩
  have hb1 : Below w.heap.size w w1 := hw1 ▸ (Below.refl _ _).alloc (Nat.le_refl _) _
  have hg1 : w1.heap[w.heap.size]? = some (.cells (tuA 6 sv shi slo sv dhi dlo sp dp) 56 (0, 0)) := hw1 ▸ blk_new _ _ _
  have hz1 : w.heap.size < w1.heap.size := by rw [← hw1]; simp
  have hx1 := hx.on hb1
  have hxl := hx.1
  have hD := fun (w : World) (hx : IsB w w.heap.size A n xs) => datagram_any 6 sv shi slo sv dhi dlo sp dp ttl A n c xs w hx (by omega) h4 h5 h6 h7
  have hS := fun (w : World) (hx : IsB w w.heap.size A n xs) => segment_any 6 sv shi slo sv dhi dlo sp dp ttl fl A n c xs w hx (by omega) h4 h5 h6 h7
  have hk2 : dgmK 6 sv shi slo sv dhi dlo sp dp ttl = 1 := by unfold dgmK; rw [if_pos (.inl (by omega))]
  have hM1 := made_dgm 6 sv shi slo sv dhi dlo sp dp ttl false (by rw [hk2]; rfl)
  have hM2 := made_sgm 6 sv shi slo sv dhi dlo sp dp ttl fl true (by rw [hk]; rfl)
  have hP := parse_sgm sv shi slo dhi dlo sp dp fl ttl xs (by omega) h4 h5 h6 h7 hk m (by omega)
  have hUl : (wrapB sv shi slo dhi dlo 6 ttl (sgU sv shi slo dhi dlo sp dp fl xs)).length = m := by rw [wrapB_length, sgU_length, hsz]; omega
  have hUr : (wrapB sv shi slo dhi dlo 6 ttl (sgU sv shi slo dhi dlo sp dp fl xs)).drop (sz + 20) = xs := by rw [← hsz, wrapB_rest, sgU_rest sv shi slo dhi dlo sp dp fl xs hr.1 hr.2.1 hr.2.2]
  obtain ⟨U, hU⟩ : ∃ U, wrapB sv shi slo dhi dlo 6 ttl (sgU sv shi slo dhi dlo sp dp fl xs) = U := ⟨_, rfl⟩
  rw [hk2] at hD
  rw [hk, hU] at hS
  rw [hU] at hP hUl hUr
  obtain ⟨y, hy⟩ : ∃ y, pkA sv 6 shi slo dhi dlo sp dp ttl fl m = y := ⟨_, rfl⟩
  have hys : y.size = 23 := hy ▸ rfl
  have hyo : y.all (·.oneCell') = true := hy ▸ pkA_one _ _ _ _ _ _ _ _ _ _ _
  rw [hy] at hP
  have hszv : sz = 20 ∨ sz = 40 := by rw [← hsz]; split <;> omega
  unfold tuA at hw1 hg1 hD hS hM1 hM2 ⊢
  have hcs := blk_cell hg1
  have hn0 : n0 ≤ maxLen := by omega
  clear hk hk2 hU hr
  replace hx := hide hx
  replace hn := hide hn
  replace hb1 := hide hb1
  replace hg1 := hide hg1
  replace hx1 := hide hx1
  replace hD := hide hD
  replace hS := hide hS
  replace hM1 := hide hM1
  replace hM2 := hide hM2
  replace hP := hide hP
  replace hUl := hide hUl
  replace hUr := hide hUr
  replace hy := hide hy
  replace hys := hide hys
  replace hyo := hide hyo
  replace hxl := hide hxl
  replace hm := hide hm
  replace hsz := hide hsz
  replace hszv := hide hszv
  go_enter Try.func9, Try.ntmps9
  go_wp2_with fail
  refine (Tun.pcut_as A n0 c n _ hn0 hnc hn.out).mono ?_
  rintro e w' ⟨rfl, rfl⟩
  clear hw1
  go_wp2_with fail
  refine (hD.out _ hx1.out).mono ?_
  rintro e w2 ⟨v2, rfl, -, hv2, hb2⟩
  obtain rfl := hv2 (by omega)
  clear hv2
  have hg2 := blk_below hb2 hz1 hg1.out
  have hB2 := hb1.out.trans (hb2.mono hb1.out.size)
  have hx2 := hx1.out.on hb2
  have hz2 : w.heap.size < w2.heap.size := by have := hb2.size; omega
  clear hb2 hcs hg1 hx1 hb1 hz1
  have hcs := blk_cell hg2
  replace hg2 := hide hg2
  replace hB2 := hide hB2
  replace hx2 := hide hx2
  go_wp2_with fail
  refine (hS.out _ hx2.out).mono ?_
  rintro e w3 ⟨v3, rfl, h1v, -, hb3⟩
  have hown := h1v rfl
  obtain ⟨A2, c2, rfl, hc2, hm2, hi3⟩ := hown.form
  obtain ⟨ad2, rfl⟩ : ∃ ad2, A2 = some ⟨ad2, 0, none⟩ := by
    obtain ⟨g, cur, hg, -⟩ := hown.row (by have := hUl.out; have := hm.out; have := hszv.out; omega)
    exact ⟨g, hg⟩
  rw [hUl.out] at hi3 hc2 ⊢
  clear h1v hown
  have hg3 := blk_below hb3 hz2 hg2.out
  have hB3 := hB2.out.trans (hb3.mono hB2.out.size)
  have hx3 := hx2.out.on hb3
  have hz3 : w.heap.size < w3.heap.size := by have := hb3.size; omega
  clear hb3 hcs hg2 hx2 hB2 hz2 
  have hcs := blk_cell hg3
  replace hg3 := hide hg3
  replace hB3 := hide hB3
  replace hx3 := hide hx3
  replace hi3 := hide hi3
  go_wp2_with fail
  refine (hM1.out _).mono ?_
  rintro e w4 ⟨rfl, hb4⟩
  have hg4 := blk_below hb4 hz3 hg3.out
  have hB4 := hB3.out.trans (hb4.mono hB3.out.size)
  have hz4 : w.heap.size < w4.heap.size := by have := hb4.size; omega
  have hx4 := hx3.out.on hb4
  have hi4 := hi3.out.on hb4
  clear hb4 hcs hg3 hB3 hz3 hx3 hi3
  have hcs := blk_cell hg4
  replace hg4 := hide hg4
  replace hB4 := hide hB4
  replace hx4 := hide hx4
  replace hi4 := hide hi4
  go_wp2_with fail
  refine (hM2.out _).mono ?_
  rintro e w5 ⟨rfl, hb5⟩
  have hg5 := blk_below hb5 hz4 hg4.out
  have hB5 := hB4.out.trans (hb5.mono hB4.out.size)
  have hz5 : w.heap.size < w5.heap.size := by have := hb5.size; omega
  have hx5 := hx4.out.on hb5
  have hi5 := hi4.out.on hb5
  clear hb5 hcs hg4 hB4 hz4 hx4 hi4
  have hcs := blk_cell hg5
  have hPc := hP.out (some ⟨ad2, 0, none⟩) c2 w5 hi5 hc2 hm2
  replace hg5 := hide hg5
  replace hB5 := hide hB5
  replace hx5 := hide hx5
  replace hi5 := hide hi5
  replace hPc := hide hPc
  rcases sv with _ | _
  case false =>
    obtain rfl : sz = 20 := hsz.out.symm
    go_upto_region 14 with fail
    apply wp_region_lit
    iterate 1 (refine wpList_plain rfl fun K hK => ?_; go_simp; refine hK _ _ ?_; clear hK K)
    refine wpList_plain rfl fun K hK => ?_
    go_simp
    refine (hPc.out).mono ?_
    rintro e w6 hE
    obtain ⟨z6, rfl, hzs, hzo, hzz, hb6⟩ := hE.letter (fun _ => ⟨hys.out, hyo.out⟩)
    rw [if_pos rfl] at hzz
    subst hzz
    have hB6 := hB5.out.trans (hb6.mono hB5.out.size)
    have hg6 := blk_below hb6 hz5 hg5.out
    have hz6 : w.heap.size < w6.heap.size := by have := hb6.size; omega
    have hx6 := hx5.out.on hb6
    have hi6 := hi5.out.on hb6
    clear hE hb6 hPc hB5 hg5 hx5 hi5 hcs hz5
    replace hB6 := hide hB6
    replace hg6 := hide hg6
    replace hx6 := hide hx6
    replace hi6 := hide hi6
    replace hzs := hide hzs
    replace hzo := hide hzo
    go_simp
    refine hK _ _ ?_
    clear hK K
    iterate 3 (refine wpList_plain rfl fun K hK => ?_; go_simp; refine hK _ _ ?_; clear hK K)
    refine wpl_new rfl rfl 58 _ (alloc_pk _ rfl) 16 rfl (.tmp 115) rfl _ (fun _ => rfl) (fun _ => rfl) (by rw [pkZ_size]; exact hzs.out) (by rw [size_pk, hzs.out]) hzo.out ?_
    intro w7 hgp hb7 hz7
    have hB7 := hB6.out.trans (hb7.mono hB6.out.size)
    have hg7 := blk_below hb7 hz6 hg6.out
    have hx7 := hx6.out.on hb7
    have hi7 := hi6.out.on hb7
    have hz7' : w.heap.size < w7.heap.size := by omega
    clear hb7 hB6 hg6 hx6 hi6
    iterate 1 (refine wpList_plain rfl fun K hK => ?_; go_simp; refine hK _ _ ?_; clear hK K)
    refine wpList_nil ?_
    have hd1 := fun (l : Later w7) (o : Nat) => blk_cell (blk_below l.hb hz7' hg7) o
    have hd2 := fun l : Later w7 => (hx7.later l).str c
    have hml := hm.out
    have hn5 : n ≤ 500 := by have := hn.out; omega
    have hk : IntKind.i64.wrap 40 = 40 := rfl
    have hfa : ((m : Int) != IntKind.i64.wrap (40 + (n : Int))) = false := by
      rw [bne_eq_false_iff_eq, IntKind.wrap_i64]
      omega
    obtain ⟨A7, hA7⟩ : ∃ A7, (if c2 = 40 then some (⟨ad2, 0, none⟩ : Addr) else some ⟨ad2, 0 + 40, none⟩) = A7 := ⟨_, rfl⟩
    have hi8 := hi7.dropAt hA7 (by omega) hc2
    rw [show m - 40 = n by omega] at hi8
    rw [show (U.drop 40) = xs from hUr.out] at hi8
    have hd3 := fun l : Later w7 => (hi8.later l).str (c2 - 40)
    rw [Nat.zero_add] at hA7
    have hkm : (40 : Int) ≤ (m : Int) := by omega
    have hmk : m - 40 = n := by omega
    have hkc : 40 ≤ c2 := by omega
    clear hml
    replace hB7 := hide hB7
    replace hg7 := hide hg7
    replace hx7 := hide hx7
    replace hi7 := hide hi7
    replace hgp := hide hgp
    replace hi8 := hide hi8
    go_upto_region 15 with fail
    refine wp_region_L (by as_aux_lemma => kernel_rfl) ?_
    refine wpE_seg 0 35 (fuel := 0) (by as_aux_lemma => kernel_rfl) (fun d _ _ _ _ h => by cases d <;> exact h) (by as_aux_lemma => kernel_rfl) (by as_aux_lemma => kernel_rfl) ?_
    simp only [List.drop_zero, List.take_succ_cons, List.take_zero]
    iterate 13 (refine wpQE_step (fun K hK => ?_); go_simp; refine hK _ ?_; clear hK K)
    refine wpQE_val (.agg y) rfl (fun l => run_ldw l.w _ 58 (.tmp 16) rfl w6.heap.size rfl y _ (blk_below l.hb hz7 hgp.out) Try.underlying58 rfl (by rw [size_pk, hys.out])) ?_
    dsimp only [Act.put]
    iterate 9 (refine wpQE_step (fun K hK => ?_); go_simp; refine hK _ ?_; clear hK K)
    refine wpQE_val (.bool false) rfl (fun l => neq_pk false 6 false shi slo false dhi dlo sp dp ttl fl false 0 false 0 0 false 0 0 0 0 m _ (.tmp 130) (.tmp 139) rfl (by rw [← show pkA false 6 shi slo dhi dlo sp dp ttl fl m = y from hy.out]; rfl) rfl l.w) ?_
    dsimp only [Act.put]
    iterate 11 (refine wpQE_step (fun K hK => ?_); go_simp; refine hK _ ?_; clear hK K)
    refine wpQE_nil ?_
    refine wpE_done (by as_aux_lemma => kernel_rfl) (fun w8 hb8 => ?_) 0
    have hB8 := hB7.out.trans (hb8.mono hB7.out.size)
    clear hb8 hd1 hd2 hd3
    replace hB8 := hide hB8
    go_wp2_with fail
    refine (awake_any _).mono ?_
    rintro e w9 ⟨rfl, hb9⟩
    have hB9 := hB8.out.trans (hb9.mono hB8.out.size)
    clear hb9
    replace hB9 := hide hB9
    go_wp2_with fail
    go_ret
    exact ⟨rfl, hB9.out⟩
  case true =>
    obtain rfl : sz = 40 := hsz.out.symm
    go_upto_region 14 with fail
    apply wp_region_lit
    iterate 1 (refine wpList_plain rfl fun K hK => ?_; go_simp; refine hK _ _ ?_; clear hK K)
    refine wpList_plain rfl fun K hK => ?_
    go_simp
    refine (hPc.out).mono ?_
    rintro e w6 hE
    obtain ⟨z6, rfl, hzs, hzo, hzz, hb6⟩ := hE.letter (fun _ => ⟨hys.out, hyo.out⟩)
    rw [if_pos rfl] at hzz
    subst hzz
    have hB6 := hB5.out.trans (hb6.mono hB5.out.size)
    have hg6 := blk_below hb6 hz5 hg5.out
    have hz6 : w.heap.size < w6.heap.size := by have := hb6.size; omega
    have hx6 := hx5.out.on hb6
    have hi6 := hi5.out.on hb6
    clear hE hb6 hPc hB5 hg5 hx5 hi5 hcs hz5
    replace hB6 := hide hB6
    replace hg6 := hide hg6
    replace hx6 := hide hx6
    replace hi6 := hide hi6
    replace hzs := hide hzs
    replace hzo := hide hzo
    go_simp
    refine hK _ _ ?_
    clear hK K
    iterate 3 (refine wpList_plain rfl fun K hK => ?_; go_simp; refine hK _ _ ?_; clear hK K)
    refine wpl_new rfl rfl 58 _ (alloc_pk _ rfl) 16 rfl (.tmp 115) rfl _ (fun _ => rfl) (fun _ => rfl) (by rw [pkZ_size]; exact hzs.out) (by rw [size_pk, hzs.out]) hzo.out ?_
    intro w7 hgp hb7 hz7
    have hB7 := hB6.out.trans (hb7.mono hB6.out.size)
    have hg7 := blk_below hb7 hz6 hg6.out
    have hx7 := hx6.out.on hb7
    have hi7 := hi6.out.on hb7
    have hz7' : w.heap.size < w7.heap.size := by omega
    clear hb7 hB6 hg6 hx6 hi6
    iterate 1 (refine wpList_plain rfl fun K hK => ?_; go_simp; refine hK _ _ ?_; clear hK K)
    refine wpList_nil ?_
    have hd1 := fun (l : Later w7) (o : Nat) => blk_cell (blk_below l.hb hz7' hg7) o
    have hd2 := fun l : Later w7 => (hx7.later l).str c
    have hml := hm.out
    have hn5 : n ≤ 500 := by have := hn.out; omega
    have hk : IntKind.i64.wrap 60 = 60 := rfl
    have hfa : ((m : Int) != IntKind.i64.wrap (60 + (n : Int))) = false := by
      rw [bne_eq_false_iff_eq, IntKind.wrap_i64]
      omega
    obtain ⟨A7, hA7⟩ : ∃ A7, (if c2 = 60 then some (⟨ad2, 0, none⟩ : Addr) else some ⟨ad2, 0 + 60, none⟩) = A7 := ⟨_, rfl⟩
    have hi8 := hi7.dropAt hA7 (by omega) hc2
    rw [show m - 60 = n by omega] at hi8
    rw [show (U.drop 60) = xs from hUr.out] at hi8
    have hd3 := fun l : Later w7 => (hi8.later l).str (c2 - 60)
    rw [Nat.zero_add] at hA7
    have hkm : (60 : Int) ≤ (m : Int) := by omega
    have hmk : m - 60 = n := by omega
    have hkc : 60 ≤ c2 := by omega
    clear hml
    replace hB7 := hide hB7
    replace hg7 := hide hg7
    replace hx7 := hide hx7
    replace hi7 := hide hi7
    replace hgp := hide hgp
    replace hi8 := hide hi8
    go_upto_region 15 with fail
    refine wp_region_L (by as_aux_lemma => kernel_rfl) ?_
    refine wpE_seg 0 35 (fuel := 0) (by as_aux_lemma => kernel_rfl) (fun d _ _ _ _ h => by cases d <;> exact h) (by as_aux_lemma => kernel_rfl) (by as_aux_lemma => kernel_rfl) ?_
    simp only [List.drop_zero, List.take_succ_cons, List.take_zero]
    iterate 13 (refine wpQE_step (fun K hK => ?_); go_simp; refine hK _ ?_; clear hK K)
    refine wpQE_val (.agg y) rfl (fun l => run_ldw l.w _ 58 (.tmp 16) rfl w6.heap.size rfl y _ (blk_below l.hb hz7 hgp.out) Try.underlying58 rfl (by rw [size_pk, hys.out])) ?_
    dsimp only [Act.put]
    iterate 9 (refine wpQE_step (fun K hK => ?_); go_simp; refine hK _ ?_; clear hK K)
    refine wpQE_val (.bool false) rfl (fun l => neq_pk true 6 true shi slo true dhi dlo sp dp ttl fl false 0 false 0 0 false 0 0 0 0 m _ (.tmp 130) (.tmp 139) rfl (by rw [← show pkA true 6 shi slo dhi dlo sp dp ttl fl m = y from hy.out]; rfl) rfl l.w) ?_
    dsimp only [Act.put]
    iterate 11 (refine wpQE_step (fun K hK => ?_); go_simp; refine hK _ ?_; clear hK K)
    refine wpQE_nil ?_
    refine wpE_done (by as_aux_lemma => kernel_rfl) (fun w8 hb8 => ?_) 0
    have hB8 := hB7.out.trans (hb8.mono hB7.out.size)
    clear hb8 hd1 hd2 hd3
    replace hB8 := hide hB8
    go_wp2_with fail
    refine (awake_any _).mono ?_
    rintro e w9 ⟨rfl, hb9⟩
    have hB9 := hB8.out.trans (hb9.mono hB8.out.size)
    clear hb9
    replace hB9 := hide hB9
    go_wp2_with fail
    go_ret
    exact ⟨rfl, hB9.out⟩
end Pkt
end Go.Proofs.Ytdmgbngdpjcliaa
/- The statement PktMakes, walked: any flow's datagram, or segment, is parsed as that flow. Conditions: a slice of bytes that reads as a list, numbers of 64 bits. -/
namespace Go.Proofs.Ytdmgbngdpjcliaa
open Go.RowKit Go.ChangeShapes Go.WideShapes Go.ChangeAt Go.Deep
namespace Pkt
set_option maxRecDepth 20000 in
set_option maxHeartbeats 8000000 in
theorem makes_none (pr : Int) (sv : Bool) (shi slo : Nat) (dv : Bool) (dhi dlo : Nat) (sp dp ttl fl : Int) (A : Option Addr) (n0 n c : Nat) (xs : List UInt8) (w : World) (hx : IsB w w.heap.size A n xs) (hn : min n0 500 = n) (hnc : n0 ≤ c) (hcm : c ≤ maxLen)
    (h4 : shi < 18446744073709551616) (h5 : slo < 18446744073709551616) (h6 : dhi < 18446744073709551616) (h7 : dlo < 18446744073709551616)
    (hk1 : dgmK pr sv shi slo dv dhi dlo sp dp ttl = 1) (hk2 : sgmK pr sv shi slo dv dhi dlo sp dp fl ttl = 1) :
    Calls Try.prog 9 #[.agg (tuA pr sv shi slo dv dhi dlo sp dp), .int .i64 ttl, .int .i64 fl, .slice A n0 c] w fun e w' => e = .returned (.bool true) ∧ Below w.heap.size w w' := by
  obtain ⟨w1, hw1⟩ : ∃ w1, w.alloc (.cells (tuA pr sv shi slo dv dhi dlo sp dp) 56) = w1 := ⟨_, rfl⟩
  have hb1 : Below w.heap.size w w1 := hw1 ▸ (Below.refl _ _).alloc (Nat.le_refl _) _
  have hg1 : w1.heap[w.heap.size]? = some (.cells (tuA pr sv shi slo dv dhi dlo sp dp) 56 (0, 0)) := hw1 ▸ blk_new _ _ _
  have hz1 : w.heap.size < w1.heap.size := by rw [← hw1]; simp
  have hx1 := hx.on hb1
  have hD := fun (w : World) (hx : IsB w w.heap.size A n xs) => datagram_any pr sv shi slo dv dhi dlo sp dp ttl A n c xs w hx (by omega) h4 h5 h6 h7
  have hS := fun (w : World) (hx : IsB w w.heap.size A n xs) => segment_any pr sv shi slo dv dhi dlo sp dp ttl fl A n c xs w hx (by omega) h4 h5 h6 h7
  have hM1 := made_dgm pr sv shi slo dv dhi dlo sp dp ttl false (by rw [hk1]; rfl)
  have hM2 := made_sgm pr sv shi slo dv dhi dlo sp dp ttl fl false (by rw [hk2]; rfl)
  rw [hk1] at hD
  rw [hk2] at hS
  unfold tuA at hw1 hg1 hD hS hM1 hM2 ⊢
  have hcs := blk_cell hg1
  have hn0 : n0 ≤ maxLen := by omega
  clear hk1 hk2
  replace hx := hide hx
  replace hn := hide hn
  replace hb1 := hide hb1
  replace hg1 := hide hg1
  replace hx1 := hide hx1
  replace hD := hide hD
  replace hS := hide hS
  replace hM1 := hide hM1
  replace hM2 := hide hM2
  go_enter Try.func9, Try.ntmps9
  go_wp2_with fail
  refine (Tun.pcut_as A n0 c n _ hn0 hnc hn.out).mono ?_
  rintro e w' ⟨rfl, rfl⟩
  clear hw1
  go_wp2_with fail
  refine (hD.out _ hx1.out).mono ?_
  rintro e w2 ⟨v2, rfl, -, hv2, hb2⟩
  obtain rfl := hv2 (by omega)
  have hg2 := blk_below hb2 hz1 hg1.out
  have hB2 := hb1.out.trans (hb2.mono hb1.out.size)
  have hx2 := hx1.out.on hb2
  have hz2 : w.heap.size < w2.heap.size := by have := hb2.size; omega
  clear hb2 hcs hg1 hx1 hb1 hv2 hz1
  have hcs := blk_cell hg2
  replace hg2 := hide hg2
  replace hB2 := hide hB2
  replace hx2 := hide hx2
  go_wp2_with fail
  refine (hS.out _ hx2.out).mono ?_
  rintro e w3 ⟨v3, rfl, -, hv3, hb3⟩
  obtain rfl := hv3 (by omega)
  have hg3 := blk_below hb3 hz2 hg2.out
  have hB3 := hB2.out.trans (hb3.mono hB2.out.size)
  have hz3 : w.heap.size < w3.heap.size := by have := hb3.size; omega
  clear hb3 hcs hg2 hx2 hB2 hv3 hz2
  have hcs := blk_cell hg3
  replace hg3 := hide hg3
  replace hB3 := hide hB3
  go_wp2_with fail
  refine (hM1.out _).mono ?_
  rintro e w4 ⟨rfl, hb4⟩
  have hg4 := blk_below hb4 hz3 hg3.out
  have hB4 := hB3.out.trans (hb4.mono hB3.out.size)
  have hz4 : w.heap.size < w4.heap.size := by have := hb4.size; omega
  clear hb4 hcs hg3 hB3 hz3
  have hcs := blk_cell hg4
  replace hg4 := hide hg4
  replace hB4 := hide hB4
  go_wp2_with fail
  refine (hM2.out _).mono ?_
  rintro e w5 ⟨rfl, hb5⟩
  have hg5 := blk_below hb5 hz4 hg4.out
  have hB5 := hB4.out.trans (hb5.mono hB4.out.size)
  clear hb5 hcs hg4 hB4 hz4
  have hcs := blk_cell hg5
  replace hg5 := hide hg5
  replace hB5 := hide hB5
  go_wp2_with fail
  all_goals
    refine (awake_any _).mono ?_
    rintro e w6 ⟨rfl, hb6⟩
    have hB6 := hB5.out.trans (hb6.mono hB5.out.size)
    clear hb6 hB5
    replace hB6 := hide hB6
    go_wp2_with fail
    go_ret
    exact ⟨rfl, hB6.out⟩
theorem makes_walk (pr : Int) (sv : Bool) (shi slo : Nat) (dv : Bool) (dhi dlo : Nat) (sp dp ttl fl : Int) (A : Option Addr) (n0 c : Nat) (xs : List UInt8) (w : World) (hx : IsB w w.heap.size A n0 xs) (hnc : n0 ≤ c) (hcm : c ≤ maxLen)
    (h4 : shi < 18446744073709551616) (h5 : slo < 18446744073709551616) (h6 : dhi < 18446744073709551616) (h7 : dlo < 18446744073709551616) :
    Calls Try.prog 9 #[.agg (tuA pr sv shi slo dv dhi dlo sp dp), .int .i64 ttl, .int .i64 fl, .slice A n0 c] w fun e w' => e = .returned (.bool true) ∧ Below w.heap.size w w' := by
  have hx0 := hx.take (m := min n0 500) (by omega)
  have l1 := dgmK_le pr sv shi slo dv dhi dlo sp dp ttl
  have l2 := sgmK_le pr sv shi slo dv dhi dlo sp dp fl ttl
  have m1 := dgm_made pr sv shi slo dv dhi dlo sp dp ttl
  have m2 := sgm_made pr sv shi slo dv dhi dlo sp dp ttl fl
  by_cases k1 : dgmK pr sv shi slo dv dhi dlo sp dp ttl = 0
  · have hh := m1.2 k1
    unfold madeP at hh
    obtain ⟨rfl, rfl, a1, a2, a3, a4, a5, a6, -⟩ := hh
    exact makes_dgm sv shi slo dhi dlo sp dp ttl fl A n0 _ c _ w hx0 rfl hnc hcm h4 h5 h6 h7 k1 _ rfl _ rfl ⟨⟨a3, a4⟩, a5, a6⟩
  · by_cases k2 : sgmK pr sv shi slo dv dhi dlo sp dp fl ttl = 0
    · have hh := m2.2 k2
      unfold madeP at hh
      obtain ⟨rfl, rfl, a1, a2, a3, a4, a5, a6, a7, a8, -⟩ := hh
      exact makes_sgm sv shi slo dhi dlo sp dp ttl fl A n0 _ c _ w hx0 rfl hnc hcm h4 h5 h6 h7 k2 _ rfl _ rfl ⟨⟨a3, a4⟩, ⟨a5, a6⟩, a7, a8⟩
    · exact makes_none pr sv shi slo dv dhi dlo sp dp ttl fl A n0 _ c _ w hx0 rfl hnc hcm h4 h5 h6 h7 (by omega) (by omega)
theorem makes_go (pr : Int) (sv : Bool) (shi slo : Int) (dv : Bool) (dhi dlo : Int) (sp dp ttl fl : Int) (A : Option Addr) (n0 c : Nat) (xs : List UInt8) (w : World) (_ : (Lit.int .i64 pr).wf = true) (h1 : (Lit.int .u64 shi).wf = true) (h2 : (Lit.int .u64 slo).wf = true) (h3 : (Lit.int .u64 dhi).wf = true) (h4 : (Lit.int .u64 dlo).wf = true)
    (_ : (Lit.int .i64 sp).wf = true) (_ : (Lit.int .i64 dp).wf = true) (_ : (Lit.int .i64 ttl).wf = true) (_ : (Lit.int .i64 fl).wf = true) (hx : IsB w w.heap.size A n0 xs) (hnc : n0 ≤ c) (hcm : c ≤ maxLen) :
    Calls Try.prog 9 #[.agg #[.int .i64 pr, .bool sv, .int .u64 shi, .int .u64 slo, .bool dv, .int .u64 dhi, .int .u64 dlo, .int .i64 sp, .int .i64 dp], .int .i64 ttl, .int .i64 fl, .slice A n0 c] w fun e w' => e = .returned (.bool true) ∧ Below w.heap.size w w' := by
  have a1 := u64_wf h1
  have a2 := u64_wf h2
  have a3 := u64_wf h3
  have a4 := u64_wf h4
  obtain ⟨b1, rfl⟩ : ∃ b : Nat, shi = (b : Int) := ⟨shi.toNat, by omega⟩
  obtain ⟨b2, rfl⟩ : ∃ b : Nat, slo = (b : Int) := ⟨slo.toNat, by omega⟩
  obtain ⟨b3, rfl⟩ : ∃ b : Nat, dhi = (b : Int) := ⟨dhi.toNat, by omega⟩
  obtain ⟨b4, rfl⟩ : ∃ b : Nat, dlo = (b : Int) := ⟨dlo.toNat, by omega⟩
  exact makes_walk pr sv b1 b2 dv b3 b4 sp dp ttl fl A n0 c xs w hx hnc hcm (by omega) (by omega) (by omega) (by omega)
end Pkt
end Go.Proofs.Ytdmgbngdpjcliaa
