/- CountPlays, walked. Condition: a slice of calls that reads as a list. -/
import Derived.Test.YtniieckjooahfaaCountPlaysBase
namespace Go.Proofs.Ytniieckjooahfaa
open Go.RowKit Go.ChangeShapes Go.WideShapes Go.ChangeAt Go.Deep
namespace Count
/-- An empty board and an empty sum, new. -/
theorem plays_made (w : World) : ∃ wx, (w.alloc (.cells (Array.replicate 29 (.int .i64 0)) 56)).alloc (.cells (Array.replicate 29 (.int .i64 0)) 59) = wx ∧ wx.heap[w.heap.size]? = some (.cells (sumA z29) 56 (0, 0)) ∧ wx.heap[w.heap.size + 1]? = some (.cells (sumA z29) 59 (0, 0)) ∧ Below w.heap.size w wx ∧ wx.heap.size = w.heap.size + 2 := by
  refine ⟨_, rfl, ?_, ?_, ((Below.refl _ _).alloc (Nat.le_refl _) _).alloc (by simp) _, by simp⟩
  · exact blk_old _ (by simp) (blk_new w _ _)
  · have h := blk_new (w.alloc (.cells (Array.replicate 29 (.int .i64 0)) 56)) 59 (Array.replicate 29 (.int .i64 0))
    rw [show (w.alloc (.cells (Array.replicate 29 (.int .i64 0)) 56)).heap.size = w.heap.size + 1 from by simp] at h
    exact h
set_option maxRecDepth 20000 in
set_option maxHeartbeats 8000000 in
theorem plays_walk (A : Option Addr) (n c : Nat) (es : List (Int × Int)) (e : Int) (w : World) (hx : IsOps w w.heap.size A n es) (hnc : n ≤ c) (hcm : c ≤ maxLen) (_ : (Lit.int .i64 e).wf = true) :
    Calls Try.prog 6 #[.slice A n c, .int .i64 e] w fun e w' => e = .returned (.bool true) ∧ Below w.heap.size w w' := by
  unfold maxLen at hcm
  obtain ⟨wx, hwx, hg0, hg1, hB, hz⟩ := plays_made w
  replace hg0 := hide hg0
  replace hg1 := hide hg1
  replace hB := hide hB
  go_enter Try.func6, Try.ntmps6
  go_upto_region 3 with fail
  change Code.wp _ _ _ _ ((w.alloc (.cells (Array.replicate 29 (.int .i64 0)) 56)).alloc (.cells (Array.replicate 29 (.int .i64 0)) 59))
  rw [hwx]
  clear hwx
  go_wp2_with fail
  go_loopw [7] (fun i wr => ∃ (k : Nat) (l : List Int), k ≤ n ∧ k ≤ 60 ∧ i = .int .i64 (k : Int) ∧ l.length = 29 ∧ okL l ∧ wr.heap[w.heap.size]? = some (.cells (sumA l) 56 (0, 0)) ∧ wr.heap[w.heap.size + 1]? = some (.cells (sumA l) 59 (0, 0)) ∧ Below w.heap.size w wr ∧ w.heap.size + 2 ≤ wr.heap.size) (fun i _ => n - (intOf i).toNat)
  case atStart => exact ⟨0, z29, by omega, by omega, rfl, rfl, ok_zeros, hg0.out, hg1.out, hB.out, by omega⟩
  case round =>
    obtain ⟨k, l, hk, hk60, rfl, hl, hok, hb, hs, hBr, hzr⟩ := hrel
    have hls := hl
    by_cases hlt : k < n ∧ k < 60
    · obtain ⟨hlt, hlt6⟩ := hlt
      obtain ⟨b, off, kd, m, rfl, hbl, hge, hc0, hc1⟩ := hx.at hlt
      have hc0' := (hBr.cell (p := ⟨b, off + k * 2, none⟩) hbl).trans hc0
      have hc1' := (hBr.cell (p := ⟨b, off + k * 2 + 1, none⟩) hbl).trans hc1
      have t1 : (k : Int) < (n : Int) := by omega
      have t2 : (k : Int) < 60 := by omega
      have t3 : (0 : Int) ≤ (k : Int) := by omega
      have s1 : IntKind.i64.wrap ((k : Int) + 1) = ((k + 1 : Nat) : Int) := by rw [wraps62 _ (by omega) (by omega)]; omega
      clear hc0 hc1 hge hB hg0 hg1
      replace hb := hide hb
      replace hs := hide hs
      replace hBr := hide hBr
      replace hok := hide hok
      by_cases h0 : kd = 0
      · subst h0
        by_cases hm : 0 ≤ m ∧ m < 26
        · obtain ⟨j, rfl⟩ : ∃ j : Nat, m = (j : Int) := ⟨m.toNat, by omega⟩
          have hj := hm.2
          have hj0 := hm.1
          have he : inL l (j : Int) = moreL (moreL l 0 1) (3 + j) 1 := by unfold inL; rw [if_pos hm, Int.toNat_natCast]
          clear hm
          go_wp2_with fail
          refine (in_any _ l (j : Int) _ hb.out hl).mono ?_
          rintro e w2 ⟨rfl, hb2, g2⟩
          have z2 := g2.size
          have hs2 := grown_other g2 (by omega) (by omega) hs.out
          have hB2 := hBr.out.trans (below_grown g2 (by omega) (by omega))
          obtain ⟨x0, hx0⟩ : ∃ x, l.getD 0 0 = x := ⟨_, rfl⟩
          obtain ⟨w3, e3, hs3, g3, c3, f3, e3'⟩ := more_step hl (by omega) hs2 x0 1 hx0
          have z3 := g3.size
          have hb3 := grown_other g3 (by omega) (by omega) hb2
          have hB3 := hB2.trans (below_grown g3 (by omega) (by omega))
          clear hx0
          obtain ⟨x1, hx1⟩ : ∃ x, (moreL l 0 1).getD (3 + j) 0 = x := ⟨_, rfl⟩
          obtain ⟨w4, e4, hs4, g4, c4, f4, e4'⟩ := more_step (by rw [more_len]; exact hl) (by omega) hs3 x1 1 hx1
          have z4 := g4.size
          have hb4 := grown_other g4 (by omega) (by omega) hb3
          have hB4 := hB3.trans (below_grown g4 (by omega) (by omega))
          rw [← he] at hs4
          clear hx1 he
          replace hs4 := hide hs4
          replace hb4 := hide hb4
          replace hB4 := hide hB4
          replace hs3 := hide hs3
          replace g2 := hide g2
          replace g3 := hide g3
          replace g4 := hide g4
          replace hb2 := hide hb2
          replace hb3 := hide hb3
          replace hB2 := hide hB2
          replace hB3 := hide hB3
          replace hs2 := hide hs2
          go_upto_region 23 with fail
          clear c3 f3 c4 f4 e3 e4 e3' e4'
          have hl' : (inL l ((j : Int))).length = 29 := by rw [in_len]; exact hl
          have hok' := ok_in hok.out ((j : Int))
          generalize inL l ((j : Int)) = l' at hs4 hb4 hl' hok'
          have hz4 : w.heap.size + 2 ≤ w4.heap.size := by omega
          have hsm := fun (lw : Later w4) => sum_any w.heap.size l' lw.w (blk_below lw.hb (by omega) hb4.out) hl'
          have hld := fun (lw : Later w4) => sumA_range (blk_below lw.hb (show w.heap.size + 1 < w4.heap.size by omega) hs4.out)
          replace hsm := hide hsm
          replace hok' := hide hok'
          replace hld := hide hld
          refine wp_region_L (by as_aux_lemma => kernel_rfl) ?_
          refine wpE_seg 0 4 (fuel := 0) (by as_aux_lemma => kernel_rfl) (fun d _ _ _ _ h => by cases d <;> exact h) (by as_aux_lemma => kernel_rfl) (by as_aux_lemma => kernel_rfl) ?_
          simp only [List.drop_zero, List.take_succ_cons, List.take_zero]
          iterate 1 (refine wpQE_step (fun K hK => ?_); go_simp; refine hK _ ?_; clear hK K)
          (refine wpQE_step (fun K hK => ?_); go_simp; apply Exists.intro; refine ⟨fun l => ?_, hK _ ?_⟩; (go_at_call 30; refine (hsm.out l).mono ?_; rintro e w' ⟨rfl, hb⟩; exact ⟨rfl, hb⟩); clear hK K)
          refine wpQE_load rfl 59 (.tmp 6) rfl (w.heap.size + 1) 0 rfl (l'.map (Value.int .i64)) _ hld.out Try.underlying59 rfl (by rw [List.length_map, hl']; rfl) ?_
          refine wpQE_neqs rfl (.tmp 80) (.tmp 81) rfl l' hl' rfl rfl ?_
          refine wpQE_nil ?_
          refine wpE_done (by as_aux_lemma => kernel_rfl) (fun w5 hb5 => ?_) 0
          have z5 := hb5.size
          have hb5' := blk_below hb5 (by omega) hb4.out
          have hs5 := blk_below hb5 (by omega) hs4.out
          have hB5 := hB4.out.trans (hb5.mono (by omega))
          replace hb5' := hide hb5'
          replace hs5 := hide hs5
          replace hB5 := hide hB5
          clear hsm hld
          go_simp
          go_wp2_with fail
          exact ⟨⟨k + 1, l', by omega, by omega, by go_num, hl', hok'.out, hb5'.out, hs5.out, hB5.out, by omega⟩, by simp [intOf]; omega⟩
        · have he : inL l m = moreL l 0 1 := by unfold inL; rw [if_neg hm]
          by_cases hm0 : 0 ≤ m
          · have hm1 : ¬ m < 26 := fun h => hm ⟨hm0, h⟩
            clear hm
            go_wp2_with fail
            refine (in_any _ l m _ hb.out hl).mono ?_
            rintro e w2 ⟨rfl, hb2, g2⟩
            have z2 := g2.size
            have hs2 := grown_other g2 (by omega) (by omega) hs.out
            have hB2 := hBr.out.trans (below_grown g2 (by omega) (by omega))
            obtain ⟨x0, hx0⟩ : ∃ x, l.getD 0 0 = x := ⟨_, rfl⟩
            obtain ⟨w3, e3, hs3, g3, c3, f3, e3'⟩ := more_step hl (by omega) hs2 x0 1 hx0
            have z3 := g3.size
            have hb3 := grown_other g3 (by omega) (by omega) hb2
            have hB3 := hB2.trans (below_grown g3 (by omega) (by omega))
            clear hx0
            rw [← he] at hs3
            clear he
            replace g2 := hide g2
            replace g3 := hide g3
            replace hb2 := hide hb2
            replace hB2 := hide hB2
            replace hs2 := hide hs2
            replace hs3 := hide hs3
            replace hb3 := hide hb3
            replace hB3 := hide hB3
            go_upto_region 23 with fail
            clear c3 f3 e3 e3'
            have hl' : (inL l (m)).length = 29 := by rw [in_len]; exact hl
            have hok' := ok_in hok.out (m)
            generalize inL l (m) = l' at hs3 hb3 hl' hok'
            have hz4 : w.heap.size + 2 ≤ w3.heap.size := by omega
            have hsm := fun (lw : Later w3) => sum_any w.heap.size l' lw.w (blk_below lw.hb (by omega) hb3.out) hl'
            have hld := fun (lw : Later w3) => sumA_range (blk_below lw.hb (show w.heap.size + 1 < w3.heap.size by omega) hs3.out)
            replace hsm := hide hsm
            replace hok' := hide hok'
            replace hld := hide hld
            refine wp_region_L (by as_aux_lemma => kernel_rfl) ?_
            refine wpE_seg 0 4 (fuel := 0) (by as_aux_lemma => kernel_rfl) (fun d _ _ _ _ h => by cases d <;> exact h) (by as_aux_lemma => kernel_rfl) (by as_aux_lemma => kernel_rfl) ?_
            simp only [List.drop_zero, List.take_succ_cons, List.take_zero]
            iterate 1 (refine wpQE_step (fun K hK => ?_); go_simp; refine hK _ ?_; clear hK K)
            (refine wpQE_step (fun K hK => ?_); go_simp; apply Exists.intro; refine ⟨fun l => ?_, hK _ ?_⟩; (go_at_call 30; refine (hsm.out l).mono ?_; rintro e w' ⟨rfl, hb⟩; exact ⟨rfl, hb⟩); clear hK K)
            refine wpQE_load rfl 59 (.tmp 6) rfl (w.heap.size + 1) 0 rfl (l'.map (Value.int .i64)) _ hld.out Try.underlying59 rfl (by rw [List.length_map, hl']; rfl) ?_
            refine wpQE_neqs rfl (.tmp 80) (.tmp 81) rfl l' hl' rfl rfl ?_
            refine wpQE_nil ?_
            refine wpE_done (by as_aux_lemma => kernel_rfl) (fun w5 hb5 => ?_) 0
            have z5 := hb5.size
            have hb5' := blk_below hb5 (by omega) hb3.out
            have hs5 := blk_below hb5 (by omega) hs3.out
            have hB5 := hB3.out.trans (hb5.mono (by omega))
            replace hb5' := hide hb5'
            replace hs5 := hide hs5
            replace hB5 := hide hB5
            clear hsm hld
            go_simp
            go_wp2_with fail
            exact ⟨⟨k + 1, l', by omega, by omega, by go_num, hl', hok'.out, hb5'.out, hs5.out, hB5.out, by omega⟩, by simp [intOf]; omega⟩
          · clear hm
            go_wp2_with fail
            refine (in_any _ l m _ hb.out hl).mono ?_
            rintro e w2 ⟨rfl, hb2, g2⟩
            have z2 := g2.size
            have hs2 := grown_other g2 (by omega) (by omega) hs.out
            have hB2 := hBr.out.trans (below_grown g2 (by omega) (by omega))
            obtain ⟨x0, hx0⟩ : ∃ x, l.getD 0 0 = x := ⟨_, rfl⟩
            obtain ⟨w3, e3, hs3, g3, c3, f3, e3'⟩ := more_step hl (by omega) hs2 x0 1 hx0
            have z3 := g3.size
            have hb3 := grown_other g3 (by omega) (by omega) hb2
            have hB3 := hB2.trans (below_grown g3 (by omega) (by omega))
            clear hx0
            rw [← he] at hs3
            clear he
            replace g2 := hide g2
            replace g3 := hide g3
            replace hb2 := hide hb2
            replace hB2 := hide hB2
            replace hs2 := hide hs2
            replace hs3 := hide hs3
            replace hb3 := hide hb3
            replace hB3 := hide hB3
            go_upto_region 23 with fail
            clear c3 f3 e3 e3'
            have hl' : (inL l (m)).length = 29 := by rw [in_len]; exact hl
            have hok' := ok_in hok.out (m)
            generalize inL l (m) = l' at hs3 hb3 hl' hok'
            have hz4 : w.heap.size + 2 ≤ w3.heap.size := by omega
            have hsm := fun (lw : Later w3) => sum_any w.heap.size l' lw.w (blk_below lw.hb (by omega) hb3.out) hl'
            have hld := fun (lw : Later w3) => sumA_range (blk_below lw.hb (show w.heap.size + 1 < w3.heap.size by omega) hs3.out)
            replace hsm := hide hsm
            replace hok' := hide hok'
            replace hld := hide hld
            refine wp_region_L (by as_aux_lemma => kernel_rfl) ?_
            refine wpE_seg 0 4 (fuel := 0) (by as_aux_lemma => kernel_rfl) (fun d _ _ _ _ h => by cases d <;> exact h) (by as_aux_lemma => kernel_rfl) (by as_aux_lemma => kernel_rfl) ?_
            simp only [List.drop_zero, List.take_succ_cons, List.take_zero]
            iterate 1 (refine wpQE_step (fun K hK => ?_); go_simp; refine hK _ ?_; clear hK K)
            (refine wpQE_step (fun K hK => ?_); go_simp; apply Exists.intro; refine ⟨fun l => ?_, hK _ ?_⟩; (go_at_call 30; refine (hsm.out l).mono ?_; rintro e w' ⟨rfl, hb⟩; exact ⟨rfl, hb⟩); clear hK K)
            refine wpQE_load rfl 59 (.tmp 6) rfl (w.heap.size + 1) 0 rfl (l'.map (Value.int .i64)) _ hld.out Try.underlying59 rfl (by rw [List.length_map, hl']; rfl) ?_
            refine wpQE_neqs rfl (.tmp 80) (.tmp 81) rfl l' hl' rfl rfl ?_
            refine wpQE_nil ?_
            refine wpE_done (by as_aux_lemma => kernel_rfl) (fun w5 hb5 => ?_) 0
            have z5 := hb5.size
            have hb5' := blk_below hb5 (by omega) hb3.out
            have hs5 := blk_below hb5 (by omega) hs3.out
            have hB5 := hB3.out.trans (hb5.mono (by omega))
            replace hb5' := hide hb5'
            replace hs5 := hide hs5
            replace hB5 := hide hB5
            clear hsm hld
            go_simp
            go_wp2_with fail
            exact ⟨⟨k + 1, l', by omega, by omega, by go_num, hl', hok'.out, hb5'.out, hs5.out, hB5.out, by omega⟩, by simp [intOf]; omega⟩
      · by_cases h1 : kd = 1
        · subst h1
          by_cases hm : 0 ≤ m ∧ m < 26
          · obtain ⟨j, rfl⟩ : ∃ j : Nat, m = (j : Int) := ⟨m.toNat, by omega⟩
            have hj := hm.2
            have hj0 := hm.1
            have he : inL l (j : Int) = moreL (moreL l 0 1) (3 + j) 1 := by unfold inL; rw [if_pos hm, Int.toNat_natCast]
            clear hm
            go_wp2_with fail
            refine (in_any _ l (j : Int) _ hb.out hl).mono ?_
            rintro e w2 ⟨rfl, hb2, g2⟩
            have z2 := g2.size
            have hs2 := grown_other g2 (by omega) (by omega) hs.out
            have hB2 := hBr.out.trans (below_grown g2 (by omega) (by omega))
            obtain ⟨x0, hx0⟩ : ∃ x, l.getD 0 0 = x := ⟨_, rfl⟩
            obtain ⟨w3, e3, hs3, g3, c3, f3, e3'⟩ := more_step hl (by omega) hs2 x0 1 hx0
            have z3 := g3.size
            have hb3 := grown_other g3 (by omega) (by omega) hb2
            have hB3 := hB2.trans (below_grown g3 (by omega) (by omega))
            clear hx0
            obtain ⟨x1, hx1⟩ : ∃ x, (moreL l 0 1).getD (3 + j) 0 = x := ⟨_, rfl⟩
            obtain ⟨w4, e4, hs4, g4, c4, f4, e4'⟩ := more_step (by rw [more_len]; exact hl) (by omega) hs3 x1 1 hx1
            have z4 := g4.size
            have hb4 := grown_other g4 (by omega) (by omega) hb3
            have hB4 := hB3.trans (below_grown g4 (by omega) (by omega))
            rw [← he] at hs4
            clear hx1 he
            replace hs4 := hide hs4
            replace hb4 := hide hb4
            replace hB4 := hide hB4
            replace hs3 := hide hs3
            replace g2 := hide g2
            replace g3 := hide g3
            replace g4 := hide g4
            replace hb2 := hide hb2
            replace hb3 := hide hb3
            replace hB2 := hide hB2
            replace hB3 := hide hB3
            replace hs2 := hide hs2
            go_upto_region 23 with fail
            clear c3 f3 c4 f4 e3 e4 e3' e4'
            have hl' : (inL l ((j : Int))).length = 29 := by rw [in_len]; exact hl
            have hok' := ok_in hok.out ((j : Int))
            generalize inL l ((j : Int)) = l' at hs4 hb4 hl' hok'
            have hz4 : w.heap.size + 2 ≤ w4.heap.size := by omega
            have hsm := fun (lw : Later w4) => sum_any w.heap.size l' lw.w (blk_below lw.hb (by omega) hb4.out) hl'
            have hld := fun (lw : Later w4) => sumA_range (blk_below lw.hb (show w.heap.size + 1 < w4.heap.size by omega) hs4.out)
            replace hsm := hide hsm
            replace hok' := hide hok'
            replace hld := hide hld
            refine wp_region_L (by as_aux_lemma => kernel_rfl) ?_
            refine wpE_seg 0 4 (fuel := 0) (by as_aux_lemma => kernel_rfl) (fun d _ _ _ _ h => by cases d <;> exact h) (by as_aux_lemma => kernel_rfl) (by as_aux_lemma => kernel_rfl) ?_
            simp only [List.drop_zero, List.take_succ_cons, List.take_zero]
            iterate 1 (refine wpQE_step (fun K hK => ?_); go_simp; refine hK _ ?_; clear hK K)
            (refine wpQE_step (fun K hK => ?_); go_simp; apply Exists.intro; refine ⟨fun l => ?_, hK _ ?_⟩; (go_at_call 30; refine (hsm.out l).mono ?_; rintro e w' ⟨rfl, hb⟩; exact ⟨rfl, hb⟩); clear hK K)
            refine wpQE_load rfl 59 (.tmp 6) rfl (w.heap.size + 1) 0 rfl (l'.map (Value.int .i64)) _ hld.out Try.underlying59 rfl (by rw [List.length_map, hl']; rfl) ?_
            refine wpQE_neqs rfl (.tmp 80) (.tmp 81) rfl l' hl' rfl rfl ?_
            refine wpQE_nil ?_
            refine wpE_done (by as_aux_lemma => kernel_rfl) (fun w5 hb5 => ?_) 0
            have z5 := hb5.size
            have hb5' := blk_below hb5 (by omega) hb4.out
            have hs5 := blk_below hb5 (by omega) hs4.out
            have hB5 := hB4.out.trans (hb5.mono (by omega))
            replace hb5' := hide hb5'
            replace hs5 := hide hs5
            replace hB5 := hide hB5
            clear hsm hld
            go_simp
            go_wp2_with fail
            exact ⟨⟨k + 1, l', by omega, by omega, by go_num, hl', hok'.out, hb5'.out, hs5.out, hB5.out, by omega⟩, by simp [intOf]; omega⟩
          · have he : inL l m = moreL l 0 1 := by unfold inL; rw [if_neg hm]
            by_cases hm0 : 0 ≤ m
            · have hm1 : ¬ m < 26 := fun h => hm ⟨hm0, h⟩
              clear hm
              go_wp2_with fail
              refine (in_any _ l m _ hb.out hl).mono ?_
              rintro e w2 ⟨rfl, hb2, g2⟩
              have z2 := g2.size
              have hs2 := grown_other g2 (by omega) (by omega) hs.out
              have hB2 := hBr.out.trans (below_grown g2 (by omega) (by omega))
              obtain ⟨x0, hx0⟩ : ∃ x, l.getD 0 0 = x := ⟨_, rfl⟩
              obtain ⟨w3, e3, hs3, g3, c3, f3, e3'⟩ := more_step hl (by omega) hs2 x0 1 hx0
              have z3 := g3.size
              have hb3 := grown_other g3 (by omega) (by omega) hb2
              have hB3 := hB2.trans (below_grown g3 (by omega) (by omega))
              clear hx0
              rw [← he] at hs3
              clear he
              replace g2 := hide g2
              replace g3 := hide g3
              replace hb2 := hide hb2
              replace hB2 := hide hB2
              replace hs2 := hide hs2
              replace hs3 := hide hs3
              replace hb3 := hide hb3
              replace hB3 := hide hB3
              go_upto_region 23 with fail
              clear c3 f3 e3 e3'
              have hl' : (inL l (m)).length = 29 := by rw [in_len]; exact hl
              have hok' := ok_in hok.out (m)
              generalize inL l (m) = l' at hs3 hb3 hl' hok'
              have hz4 : w.heap.size + 2 ≤ w3.heap.size := by omega
              have hsm := fun (lw : Later w3) => sum_any w.heap.size l' lw.w (blk_below lw.hb (by omega) hb3.out) hl'
              have hld := fun (lw : Later w3) => sumA_range (blk_below lw.hb (show w.heap.size + 1 < w3.heap.size by omega) hs3.out)
              replace hsm := hide hsm
              replace hok' := hide hok'
              replace hld := hide hld
              refine wp_region_L (by as_aux_lemma => kernel_rfl) ?_
              refine wpE_seg 0 4 (fuel := 0) (by as_aux_lemma => kernel_rfl) (fun d _ _ _ _ h => by cases d <;> exact h) (by as_aux_lemma => kernel_rfl) (by as_aux_lemma => kernel_rfl) ?_
              simp only [List.drop_zero, List.take_succ_cons, List.take_zero]
              iterate 1 (refine wpQE_step (fun K hK => ?_); go_simp; refine hK _ ?_; clear hK K)
              (refine wpQE_step (fun K hK => ?_); go_simp; apply Exists.intro; refine ⟨fun l => ?_, hK _ ?_⟩; (go_at_call 30; refine (hsm.out l).mono ?_; rintro e w' ⟨rfl, hb⟩; exact ⟨rfl, hb⟩); clear hK K)
              refine wpQE_load rfl 59 (.tmp 6) rfl (w.heap.size + 1) 0 rfl (l'.map (Value.int .i64)) _ hld.out Try.underlying59 rfl (by rw [List.length_map, hl']; rfl) ?_
              refine wpQE_neqs rfl (.tmp 80) (.tmp 81) rfl l' hl' rfl rfl ?_
              refine wpQE_nil ?_
              refine wpE_done (by as_aux_lemma => kernel_rfl) (fun w5 hb5 => ?_) 0
              have z5 := hb5.size
              have hb5' := blk_below hb5 (by omega) hb3.out
              have hs5 := blk_below hb5 (by omega) hs3.out
              have hB5 := hB3.out.trans (hb5.mono (by omega))
              replace hb5' := hide hb5'
              replace hs5 := hide hs5
              replace hB5 := hide hB5
              clear hsm hld
              go_simp
              go_wp2_with fail
              exact ⟨⟨k + 1, l', by omega, by omega, by go_num, hl', hok'.out, hb5'.out, hs5.out, hB5.out, by omega⟩, by simp [intOf]; omega⟩
            · clear hm
              go_wp2_with fail
              refine (in_any _ l m _ hb.out hl).mono ?_
              rintro e w2 ⟨rfl, hb2, g2⟩
              have z2 := g2.size
              have hs2 := grown_other g2 (by omega) (by omega) hs.out
              have hB2 := hBr.out.trans (below_grown g2 (by omega) (by omega))
              obtain ⟨x0, hx0⟩ : ∃ x, l.getD 0 0 = x := ⟨_, rfl⟩
              obtain ⟨w3, e3, hs3, g3, c3, f3, e3'⟩ := more_step hl (by omega) hs2 x0 1 hx0
              have z3 := g3.size
              have hb3 := grown_other g3 (by omega) (by omega) hb2
              have hB3 := hB2.trans (below_grown g3 (by omega) (by omega))
              clear hx0
              rw [← he] at hs3
              clear he
              replace g2 := hide g2
              replace g3 := hide g3
              replace hb2 := hide hb2
              replace hB2 := hide hB2
              replace hs2 := hide hs2
              replace hs3 := hide hs3
              replace hb3 := hide hb3
              replace hB3 := hide hB3
              go_upto_region 23 with fail
              clear c3 f3 e3 e3'
              have hl' : (inL l (m)).length = 29 := by rw [in_len]; exact hl
              have hok' := ok_in hok.out (m)
              generalize inL l (m) = l' at hs3 hb3 hl' hok'
              have hz4 : w.heap.size + 2 ≤ w3.heap.size := by omega
              have hsm := fun (lw : Later w3) => sum_any w.heap.size l' lw.w (blk_below lw.hb (by omega) hb3.out) hl'
              have hld := fun (lw : Later w3) => sumA_range (blk_below lw.hb (show w.heap.size + 1 < w3.heap.size by omega) hs3.out)
              replace hsm := hide hsm
              replace hok' := hide hok'
              replace hld := hide hld
              refine wp_region_L (by as_aux_lemma => kernel_rfl) ?_
              refine wpE_seg 0 4 (fuel := 0) (by as_aux_lemma => kernel_rfl) (fun d _ _ _ _ h => by cases d <;> exact h) (by as_aux_lemma => kernel_rfl) (by as_aux_lemma => kernel_rfl) ?_
              simp only [List.drop_zero, List.take_succ_cons, List.take_zero]
              iterate 1 (refine wpQE_step (fun K hK => ?_); go_simp; refine hK _ ?_; clear hK K)
              (refine wpQE_step (fun K hK => ?_); go_simp; apply Exists.intro; refine ⟨fun l => ?_, hK _ ?_⟩; (go_at_call 30; refine (hsm.out l).mono ?_; rintro e w' ⟨rfl, hb⟩; exact ⟨rfl, hb⟩); clear hK K)
              refine wpQE_load rfl 59 (.tmp 6) rfl (w.heap.size + 1) 0 rfl (l'.map (Value.int .i64)) _ hld.out Try.underlying59 rfl (by rw [List.length_map, hl']; rfl) ?_
              refine wpQE_neqs rfl (.tmp 80) (.tmp 81) rfl l' hl' rfl rfl ?_
              refine wpQE_nil ?_
              refine wpE_done (by as_aux_lemma => kernel_rfl) (fun w5 hb5 => ?_) 0
              have z5 := hb5.size
              have hb5' := blk_below hb5 (by omega) hb3.out
              have hs5 := blk_below hb5 (by omega) hs3.out
              have hB5 := hB3.out.trans (hb5.mono (by omega))
              replace hb5' := hide hb5'
              replace hs5 := hide hs5
              replace hB5 := hide hB5
              clear hsm hld
              go_simp
              go_wp2_with fail
              exact ⟨⟨k + 1, l', by omega, by omega, by go_num, hl', hok'.out, hb5'.out, hs5.out, hB5.out, by omega⟩, by simp [intOf]; omega⟩
        · by_cases h4 : kd = 4
          · subst h4
            go_upto_region 20 with fail
            refine wp_region_W [1] wr.heap.size (fun k => k = w.heap.size) (by as_aux_lemma => kernel_rfl) ?_
            intro wd hbd
            have zd := hbd.size
            have hsd := blk_below hbd (by omega) hs.out
            have hbd' := blk_below hbd (by omega) hb.out
            have hBd := hBr.out.trans (hbd.mono (by omega))
            have hcl := clear_any w.heap.size l wd hbd' hl
            have hld := fun (lw : KeptSW wr.heap.size (fun k => k = w.heap.size) wd) => sumA_range (lw.blk hsd (by omega) (by omega))
            replace hsd := hide hsd
            replace hbd' := hide hbd'
            replace hBd := hide hBd
            replace hcl := hide hcl
            replace hld := hide hld
            replace hbd := hide hbd
            refine wpWS_seg [1] wr.heap.size (fun k => k = w.heap.size) 0 1 (fuel := 3) (by as_aux_lemma => kernel_rfl) (fun d _ _ _ _ h => by cases d <;> exact h) (by as_aux_lemma => kernel_rfl) (by as_aux_lemma => kernel_rfl) ?_
            simp only [List.drop_zero, List.take_succ_cons, List.take_zero]
            iterate 1 (refine wpQS_step (fun K hK => ?_); go_simp; refine hK _ ?_; clear hK K)
            refine wpQF_nil ?_
            refine wpWS_seg [1] wr.heap.size (fun k => k = w.heap.size) 2 1 (fuel := 2) (by as_aux_lemma => kernel_rfl) (fun d _ _ _ _ h => by cases d <;> exact h) (by as_aux_lemma => kernel_rfl) (by as_aux_lemma => kernel_rfl) ?_
            simp only [List.drop_succ_cons, List.drop_zero, List.take_succ_cons, List.take_zero]
            refine wpQS_load rfl 59 (.tmp 6) rfl (w.heap.size + 1) 0 rfl (l.map (Value.int .i64)) _ hld.out Try.underlying59 rfl (by rw [List.length_map, hl]; rfl) ?_
            refine wpQF_nil ?_
            refine wpW_step 1 rfl (by as_aux_lemma => kernel_rfl) (fun K hK => ?_)
            go_simp
            go_at_call 28
            refine hcl.out.mono ?_
            rintro e w2 ⟨rfl, hb2, g2⟩
            refine hK _ _ (relS_of rfl (keptS_grown' g2 zd rfl)) ?_
            clear hK K
            have hs2 := grown_other g2 (by omega) (by omega) hsd.out
            have hB2 := hBd.out.trans (below_grown g2 (by omega) (by omega))
            have z2 := g2.size
            replace hb2 := hide hb2
            replace g2 := hide g2
            replace hs2 := hide hs2
            replace hB2 := hide hB2
            clear hld hcl
            refine wpW_step 3 rfl (by as_aux_lemma => kernel_rfl) (fun K hK => ?_)
            rw [if_pos (by rfl)]
            unfold Oper.wp
            rw [neq_run (.tmp 75) (.tmp 76) l hl _ rfl rfl w2 rfl]
            refine hK _ _ (relS_refl _ _ _ _ _) ?_
            clear hK K
            refine wpW_done (by as_aux_lemma => kernel_rfl) ?_ _
            go_simp
            go_upto_region 22 with fail
            apply wp_region_lit
            refine wpList_plain rfl fun K hK => ?_
            go_simp
            refine hK _ _ ?_
            clear hK K
            refine wpList_store_mid rfl 59 (.tmp 6) (.tmp 78) rfl (w.heap.size + 1) 0 (sumA z29) rfl rfl (sumA_there hs2.out hl) rfl (sumA_one _) ?_
            refine wpList_nil ?_
            have hs3 := sumA_store (l' := z29) hs2.out (by rw [hl]; rfl)
            have hb0 := below_cells (Nat.le_refl (w.heap.size + 1)) (sumA z29).toList 0 (Below.refl (w.heap.size + 1) w2)
            have hb3 := blk_below hb0 (Nat.lt_succ_self _) hb2.out
            have hB4 := hB2.out.trans (hb0.mono (by omega))
            have hz3 := hb0.size
            clear hb0
            obtain ⟨w4, hw4⟩ : ∃ x, w2.setCells (w.heap.size + 1) 0 (sumA z29).toList = x := ⟨_, rfl⟩
            rw [hw4] at hs3 hb3 hB4 hz3 ⊢
            clear hw4
            obtain ⟨l', hl', hok', hb4, hs4⟩ : ∃ l' : List Int, l'.length = 29 ∧ okL l' ∧ w4.heap[w.heap.size]? = some (.cells (sumA l') 56 (0, 0)) ∧ w4.heap[w.heap.size + 1]? = some (.cells (sumA l') 59 (0, 0)) := ⟨z29, rfl, ok_zeros, hb3, hs3⟩
            clear hs3 hb3
            replace hs4 := hide hs4
            replace hb4 := hide hb4
            replace hB4 := hide hB4
            go_simp
            go_upto_region 23 with fail
            have hz4 : w.heap.size + 2 ≤ w4.heap.size := by omega
            have hsm := fun (lw : Later w4) => sum_any w.heap.size l' lw.w (blk_below lw.hb (by omega) hb4.out) hl'
            have hld := fun (lw : Later w4) => sumA_range (blk_below lw.hb (show w.heap.size + 1 < w4.heap.size by omega) hs4.out)
            replace hsm := hide hsm
            replace hok' := hide hok'
            replace hld := hide hld
            refine wp_region_L (by as_aux_lemma => kernel_rfl) ?_
            refine wpE_seg 0 4 (fuel := 0) (by as_aux_lemma => kernel_rfl) (fun d _ _ _ _ h => by cases d <;> exact h) (by as_aux_lemma => kernel_rfl) (by as_aux_lemma => kernel_rfl) ?_
            simp only [List.drop_zero, List.take_succ_cons, List.take_zero]
            iterate 1 (refine wpQE_step (fun K hK => ?_); go_simp; refine hK _ ?_; clear hK K)
            (refine wpQE_step (fun K hK => ?_); go_simp; apply Exists.intro; refine ⟨fun l => ?_, hK _ ?_⟩; (go_at_call 30; refine (hsm.out l).mono ?_; rintro e w' ⟨rfl, hb⟩; exact ⟨rfl, hb⟩); clear hK K)
            refine wpQE_load rfl 59 (.tmp 6) rfl (w.heap.size + 1) 0 rfl (l'.map (Value.int .i64)) _ hld.out Try.underlying59 rfl (by rw [List.length_map, hl']; rfl) ?_
            refine wpQE_neqs rfl (.tmp 80) (.tmp 81) rfl l' hl' rfl rfl ?_
            refine wpQE_nil ?_
            refine wpE_done (by as_aux_lemma => kernel_rfl) (fun w5 hb5 => ?_) 0
            have z5 := hb5.size
            have hb5' := blk_below hb5 (by omega) hb4.out
            have hs5 := blk_below hb5 (by omega) hs4.out
            have hB5 := hB4.out.trans (hb5.mono (by omega))
            replace hb5' := hide hb5'
            replace hs5 := hide hs5
            replace hB5 := hide hB5
            clear hsm hld
            go_simp
            go_wp2_with fail
            exact ⟨⟨k + 1, l', by omega, by omega, by go_num, hl', hok'.out, hb5'.out, hs5.out, hB5.out, by omega⟩, by simp [intOf]; omega⟩
          · have b0 : (kd == 0) = false := by simpa using h0
            have b1 : (kd == 1) = false := by simpa using h1
            have b4 : (kd == 4) = false := by simpa using h4
            by_cases hbig : 1099511627776 < m
            · go_wp2_with fail
              exact ⟨⟨k + 1, l, by omega, by omega, by go_num, hl, hok.out, hb.out, hs.out, hBr.out, by omega⟩, by simp [intOf]; omega⟩
            · by_cases hp : 0 < m
              · have he : outL l m = moreL (moreL l 1 1) 2 m := by unfold outL; rw [show max m 0 = m by omega]
                go_wp2_with fail
                refine (out_any _ l m _ hb.out hl).mono ?_
                rintro e w2 ⟨rfl, hb2, g2⟩
                have z2 := g2.size
                have hs2 := grown_other g2 (by omega) (by omega) hs.out
                have hB2 := hBr.out.trans (below_grown g2 (by omega) (by omega))
                obtain ⟨x0, hx0⟩ : ∃ x, l.getD 1 0 = x := ⟨_, rfl⟩
                obtain ⟨w3, e3, hs3, g3, c3, f3, e3'⟩ := more_step hl (by omega) hs2 x0 1 hx0
                have z3 := g3.size
                have hb3 := grown_other g3 (by omega) (by omega) hb2
                have hB3 := hB2.trans (below_grown g3 (by omega) (by omega))
                clear hx0
                obtain ⟨x1, hx1⟩ : ∃ x, (moreL l 1 1).getD (2) 0 = x := ⟨_, rfl⟩
                obtain ⟨w4, e4, hs4, g4, c4, f4, e4'⟩ := more_step (by rw [more_len]; exact hl) (by omega) hs3 x1 m hx1
                have z4 := g4.size
                have hb4 := grown_other g4 (by omega) (by omega) hb3
                have hB4 := hB3.trans (below_grown g4 (by omega) (by omega))
                rw [← he] at hs4
                clear hx1 he
                replace hs4 := hide hs4
                replace hb4 := hide hb4
                replace hB4 := hide hB4
                replace hs3 := hide hs3
                replace g2 := hide g2
                replace g3 := hide g3
                replace g4 := hide g4
                replace hb2 := hide hb2
                replace hb3 := hide hb3
                replace hB2 := hide hB2
                replace hB3 := hide hB3
                replace hs2 := hide hs2
                go_upto_region 23 with fail
                clear c3 f3 c4 f4 e3 e4 e3' e4'
                have hl' : (outL l (m)).length = 29 := by rw [out_len]; exact hl
                have hok' := ok_out hok.out (m)
                generalize outL l (m) = l' at hs4 hb4 hl' hok'
                have hz4 : w.heap.size + 2 ≤ w4.heap.size := by omega
                have hsm := fun (lw : Later w4) => sum_any w.heap.size l' lw.w (blk_below lw.hb (by omega) hb4.out) hl'
                have hld := fun (lw : Later w4) => sumA_range (blk_below lw.hb (show w.heap.size + 1 < w4.heap.size by omega) hs4.out)
                replace hsm := hide hsm
                replace hok' := hide hok'
                replace hld := hide hld
                refine wp_region_L (by as_aux_lemma => kernel_rfl) ?_
                refine wpE_seg 0 4 (fuel := 0) (by as_aux_lemma => kernel_rfl) (fun d _ _ _ _ h => by cases d <;> exact h) (by as_aux_lemma => kernel_rfl) (by as_aux_lemma => kernel_rfl) ?_
                simp only [List.drop_zero, List.take_succ_cons, List.take_zero]
                iterate 1 (refine wpQE_step (fun K hK => ?_); go_simp; refine hK _ ?_; clear hK K)
                (refine wpQE_step (fun K hK => ?_); go_simp; apply Exists.intro; refine ⟨fun l => ?_, hK _ ?_⟩; (go_at_call 30; refine (hsm.out l).mono ?_; rintro e w' ⟨rfl, hb⟩; exact ⟨rfl, hb⟩); clear hK K)
                refine wpQE_load rfl 59 (.tmp 6) rfl (w.heap.size + 1) 0 rfl (l'.map (Value.int .i64)) _ hld.out Try.underlying59 rfl (by rw [List.length_map, hl']; rfl) ?_
                refine wpQE_neqs rfl (.tmp 80) (.tmp 81) rfl l' hl' rfl rfl ?_
                refine wpQE_nil ?_
                refine wpE_done (by as_aux_lemma => kernel_rfl) (fun w5 hb5 => ?_) 0
                have z5 := hb5.size
                have hb5' := blk_below hb5 (by omega) hb4.out
                have hs5 := blk_below hb5 (by omega) hs4.out
                have hB5 := hB4.out.trans (hb5.mono (by omega))
                replace hb5' := hide hb5'
                replace hs5 := hide hs5
                replace hB5 := hide hB5
                clear hsm hld
                go_simp
                go_wp2_with fail
                exact ⟨⟨k + 1, l', by omega, by omega, by go_num, hl', hok'.out, hb5'.out, hs5.out, hB5.out, by omega⟩, by simp [intOf]; omega⟩
              · have he : outL l m = moreL l 1 1 := by unfold outL; rw [show max m 0 = 0 by omega]; exact more_zero (ok_more hok.out 1 1) 2 (by rw [more_len]; omega)
                go_wp2_with fail
                refine (out_any _ l m _ hb.out hl).mono ?_
                rintro e w2 ⟨rfl, hb2, g2⟩
                have z2 := g2.size
                have hs2 := grown_other g2 (by omega) (by omega) hs.out
                have hB2 := hBr.out.trans (below_grown g2 (by omega) (by omega))
                obtain ⟨x0, hx0⟩ : ∃ x, l.getD 1 0 = x := ⟨_, rfl⟩
                obtain ⟨w3, e3, hs3, g3, c3, f3, e3'⟩ := more_step hl (by omega) hs2 x0 1 hx0
                have z3 := g3.size
                have hb3 := grown_other g3 (by omega) (by omega) hb2
                have hB3 := hB2.trans (below_grown g3 (by omega) (by omega))
                clear hx0
                rw [← he] at hs3
                clear he
                replace g2 := hide g2
                replace g3 := hide g3
                replace hb2 := hide hb2
                replace hB2 := hide hB2
                replace hs2 := hide hs2
                replace hs3 := hide hs3
                replace hb3 := hide hb3
                replace hB3 := hide hB3
                go_upto_region 23 with fail
                clear c3 f3 e3 e3'
                have hl' : (outL l (m)).length = 29 := by rw [out_len]; exact hl
                have hok' := ok_out hok.out (m)
                generalize outL l (m) = l' at hs3 hb3 hl' hok'
                have hz4 : w.heap.size + 2 ≤ w3.heap.size := by omega
                have hsm := fun (lw : Later w3) => sum_any w.heap.size l' lw.w (blk_below lw.hb (by omega) hb3.out) hl'
                have hld := fun (lw : Later w3) => sumA_range (blk_below lw.hb (show w.heap.size + 1 < w3.heap.size by omega) hs3.out)
                replace hsm := hide hsm
                replace hok' := hide hok'
                replace hld := hide hld
                refine wp_region_L (by as_aux_lemma => kernel_rfl) ?_
                refine wpE_seg 0 4 (fuel := 0) (by as_aux_lemma => kernel_rfl) (fun d _ _ _ _ h => by cases d <;> exact h) (by as_aux_lemma => kernel_rfl) (by as_aux_lemma => kernel_rfl) ?_
                simp only [List.drop_zero, List.take_succ_cons, List.take_zero]
                iterate 1 (refine wpQE_step (fun K hK => ?_); go_simp; refine hK _ ?_; clear hK K)
                (refine wpQE_step (fun K hK => ?_); go_simp; apply Exists.intro; refine ⟨fun l => ?_, hK _ ?_⟩; (go_at_call 30; refine (hsm.out l).mono ?_; rintro e w' ⟨rfl, hb⟩; exact ⟨rfl, hb⟩); clear hK K)
                refine wpQE_load rfl 59 (.tmp 6) rfl (w.heap.size + 1) 0 rfl (l'.map (Value.int .i64)) _ hld.out Try.underlying59 rfl (by rw [List.length_map, hl']; rfl) ?_
                refine wpQE_neqs rfl (.tmp 80) (.tmp 81) rfl l' hl' rfl rfl ?_
                refine wpQE_nil ?_
                refine wpE_done (by as_aux_lemma => kernel_rfl) (fun w5 hb5 => ?_) 0
                have z5 := hb5.size
                have hb5' := blk_below hb5 (by omega) hb3.out
                have hs5 := blk_below hb5 (by omega) hs3.out
                have hB5 := hB3.out.trans (hb5.mono (by omega))
                replace hb5' := hide hb5'
                replace hs5 := hide hs5
                replace hB5 := hide hB5
                clear hsm hld
                go_simp
                go_wp2_with fail
                exact ⟨⟨k + 1, l', by omega, by omega, by go_num, hl', hok'.out, hb5'.out, hs5.out, hB5.out, by omega⟩, by simp [intOf]; omega⟩
    · clear hB hg0 hg1
      replace hb := hide hb
      replace hs := hide hs
      replace hBr := hide hBr
      replace hok := hide hok
      by_cases hkn : k < n
      · have t1 : (k : Int) < (n : Int) := by omega
        have t2 : ¬ (k : Int) < 60 := by omega
        clear hlt
        by_cases he : 0 ≤ e ∧ e < 26
        · obtain ⟨j, rfl⟩ : ∃ j : Nat, e = (j : Int) := ⟨e.toNat, by omega⟩
          have hj := he.2
          have hj0 := he.1
          have hof : ofL l (j : Int) = l.getD (3 + j) 0 := by unfold ofL; rw [if_pos he, Int.toNat_natCast]
          clear he
          obtain ⟨x, hx⟩ : ∃ x, l.getD (3 + j) 0 = x := ⟨_, rfl⟩
          have c1 := sumA_cell hs.out hl (3 + j) (by omega)
          have hO := of_any _ l (j : Int) wr hb.out hl
          rw [hof, hx] at hO
          rw [hx] at c1
          clear hof hx
          replace hO := hide hO
          go_wp2_with fail
          refine hO.out.mono ?_
          rintro e w2 ⟨rfl, rfl⟩
          go_wp2_with fail
          refine (Limit.awake31 _).mono ?_
          rintro e w8 ⟨rfl, hb8⟩
          have hB8 := hBr.out.trans (hb8.mono (by omega))
          replace hB8 := hide hB8
          go_wp2_with fail
          go_ret
          exact ⟨rfl, hB8.out⟩
        · have hof : ofL l e = 0 := by unfold ofL; rw [if_neg he]
          have hO := of_any _ l e wr hb.out hl
          rw [hof] at hO
          clear hof
          replace hO := hide hO
          by_cases he0 : 0 ≤ e
          · have he1 : ¬ e < 26 := fun h => he ⟨he0, h⟩
            clear he
            go_wp2_with fail
            refine hO.out.mono ?_
            rintro e w2 ⟨rfl, rfl⟩
            go_wp2_with fail
            refine (Limit.awake31 _).mono ?_
            rintro e w8 ⟨rfl, hb8⟩
            have hB8 := hBr.out.trans (hb8.mono (by omega))
            replace hB8 := hide hB8
            go_wp2_with fail
            go_ret
            exact ⟨rfl, hB8.out⟩
          · clear he
            go_wp2_with fail
            refine hO.out.mono ?_
            rintro e w2 ⟨rfl, rfl⟩
            go_wp2_with fail
            refine (Limit.awake31 _).mono ?_
            rintro e w8 ⟨rfl, hb8⟩
            have hB8 := hBr.out.trans (hb8.mono (by omega))
            replace hB8 := hide hB8
            go_wp2_with fail
            go_ret
            exact ⟨rfl, hB8.out⟩
      · have t1 : ¬ (k : Int) < (n : Int) := by omega
        clear hlt
        by_cases he : 0 ≤ e ∧ e < 26
        · obtain ⟨j, rfl⟩ : ∃ j : Nat, e = (j : Int) := ⟨e.toNat, by omega⟩
          have hj := he.2
          have hj0 := he.1
          have hof : ofL l (j : Int) = l.getD (3 + j) 0 := by unfold ofL; rw [if_pos he, Int.toNat_natCast]
          clear he
          obtain ⟨x, hx⟩ : ∃ x, l.getD (3 + j) 0 = x := ⟨_, rfl⟩
          have c1 := sumA_cell hs.out hl (3 + j) (by omega)
          have hO := of_any _ l (j : Int) wr hb.out hl
          rw [hof, hx] at hO
          rw [hx] at c1
          clear hof hx
          replace hO := hide hO
          go_wp2_with fail
          refine hO.out.mono ?_
          rintro e w2 ⟨rfl, rfl⟩
          go_wp2_with fail
          refine (Limit.awake31 _).mono ?_
          rintro e w8 ⟨rfl, hb8⟩
          have hB8 := hBr.out.trans (hb8.mono (by omega))
          replace hB8 := hide hB8
          go_wp2_with fail
          go_ret
          exact ⟨rfl, hB8.out⟩
        · have hof : ofL l e = 0 := by unfold ofL; rw [if_neg he]
          have hO := of_any _ l e wr hb.out hl
          rw [hof] at hO
          clear hof
          replace hO := hide hO
          by_cases he0 : 0 ≤ e
          · have he1 : ¬ e < 26 := fun h => he ⟨he0, h⟩
            clear he
            go_wp2_with fail
            refine hO.out.mono ?_
            rintro e w2 ⟨rfl, rfl⟩
            go_wp2_with fail
            refine (Limit.awake31 _).mono ?_
            rintro e w8 ⟨rfl, hb8⟩
            have hB8 := hBr.out.trans (hb8.mono (by omega))
            replace hB8 := hide hB8
            go_wp2_with fail
            go_ret
            exact ⟨rfl, hB8.out⟩
          · clear he
            go_wp2_with fail
            refine hO.out.mono ?_
            rintro e w2 ⟨rfl, rfl⟩
            go_wp2_with fail
            refine (Limit.awake31 _).mono ?_
            rintro e w8 ⟨rfl, hb8⟩
            have hB8 := hBr.out.trans (hb8.mono (by omega))
            replace hB8 := hide hB8
            go_wp2_with fail
            go_ret
            exact ⟨rfl, hB8.out⟩
end Count
end Go.Proofs.Ytniieckjooahfaa
