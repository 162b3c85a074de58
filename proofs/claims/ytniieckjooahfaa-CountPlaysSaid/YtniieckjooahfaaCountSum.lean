/- count.Board's Sum, by contract. Condition: a board of 29 numbers. -/
import Derived.Test.YtniieckjooahfaaCountBoard
namespace Go.Proofs.Ytniieckjooahfaa
open Go.RowKit Go.ChangeShapes Go.WideShapes Go.ChangeAt Go.Deep
namespace Count
/-- The first k of a sum, the rest zeros. -/
def fillL (l : List Int) (k : Nat) : List Int := l.take k ++ z29.drop k
theorem fill_len (l : List Int) (k : Nat) (hl : l.length = 29) : (fillL l k).length = 29 := by simp [fillL, z29, hl]; omega
theorem fill_next (l : List Int) (k : Nat) (hl : l.length = 29) (hk : k < 29) : (fillL l k).set k (l.getD k 0) = fillL l (k + 1) := by
  have h1 : (l.take k).length = k := by simp [hl]; omega
  have h2 : l[k]? = some l[k] := List.getElem?_eq_getElem (by omega)
  unfold fillL
  rw [List.set_append_right _ _ (by omega), h1, Nat.sub_self, List.take_add_one, h2, List.drop_eq_getElem_cons (by simp [z29]; omega : k < z29.length)]
  simp only [List.set_cons_zero, Option.toList_some, List.append_assoc, List.cons_append, List.nil_append, List.getD, h2, Option.getD_some]
theorem fill_all (l : List Int) (hl : l.length = 29) : fillL l 29 = l := by
  unfold fillL
  rw [List.take_of_length_le (by omega), List.drop_of_length_le (by simp [z29]), List.append_nil]
theorem fill_step {w : World} {g k : Nat} {t : TypeId} {l : List Int} (hl : l.length = 29) (hk : k < 29) (h : w.heap[g]? = some (.cells (sumA (fillL l k)) t (0, 0))) (v : Int) (hv : v = l.getD k 0) :
    ∃ w', w.setCell ⟨g, k, none⟩ (.int .i64 v) = w' ∧ w'.heap[g]? = some (.cells (sumA (fillL l (k + 1))) t (0, 0)) ∧ w.grownBy w' (some g) := by
  refine ⟨_, rfl, ?_, grown_set (grown_refl _ _) rfl _⟩
  rw [blk_set h, sumA_set, hv, fill_next l k hl hk]
set_option maxRecDepth 20000 in
set_option maxHeartbeats 8000000 in
theorem sum_any (g : Nat) (l : List Int) (w : World) (h : w.heap[g]? = some (.cells (sumA l) 56 (0, 0))) (hl : l.length = 29) :
    Calls Try.prog 30 #[.pointer (some ⟨g, 0, none⟩)] w fun e w' => e = .returned (.agg (sumA l)) ∧ Below w.heap.size w w' := by
  have hgl : g < w.heap.size := by
    rcases Nat.lt_or_ge g w.heap.size with h1 | h1
    · exact h1
    · rw [Array.getElem?_eq_none h1] at h; cases h
  obtain ⟨wx, hwx, hg0, hg1, hB, hz⟩ := zeros_made w
  have hgx := blk_below hB hgl h
  rw [show sumA z29 = sumA (fillL l 0) from by simp [fillL]] at hg1
  obtain ⟨x0, hx0⟩ : ∃ x, l.getD 0 0 = x := ⟨_, rfl⟩
  obtain ⟨x1, hx1⟩ : ∃ x, l.getD 1 0 = x := ⟨_, rfl⟩
  obtain ⟨x2, hx2⟩ : ∃ x, l.getD 2 0 = x := ⟨_, rfl⟩
  replace hg0 := hide hg0
  replace hg1 := hide hg1
  replace hgx := hide hgx
  replace hB := hide hB
  replace h := hide h
  replace hx0 := hide hx0
  replace hx1 := hide hx1
  replace hx2 := hide hx2
  go_enter Try.func30, Try.ntmps30
  go_upto_region 4 with fail
  change Code.wp _ _ _ _ ((w.alloc (.cells (Array.replicate 29 (.int .i64 0)) 59)).alloc (.cells (Array.replicate 29 (.int .i64 0)) 59))
  rw [hwx]
  clear hwx
  refine wp_region_W [13, 15, 17] wx.heap.size (fun k => k = w.heap.size + 1) (by as_aux_lemma => kernel_rfl) ?_
  intro wd hbd
  have hzd := hbd.size
  have hgd := blk_below hbd (by omega) hgx.out
  have hg0d := blk_below hbd (by omega) hg0.out
  have hg1d := blk_below hbd (by omega) hg1.out
  have hBd := hB.out.trans (hbd.mono (by omega))
  obtain ⟨w13, e13, hg13, gr13⟩ := fill_step hl (by omega : 0 < 29) hg1d x0 hx0.out.symm
  obtain ⟨w15, e15, hg15, gr15⟩ := fill_step hl (by omega : 1 < 29) hg13 x1 hx1.out.symm
  obtain ⟨w17, e17, hg17, gr17⟩ := fill_step hl (by omega : 2 < 29) hg15 x2 hx2.out.symm
  have hL := fun (lw : KeptSW wx.heap.size (fun k => k = w.heap.size + 1) wd) (i : Nat) (hi : i < 29) => load_at (lw.blk hgd (by omega) (by omega)) hl i hi
  have hL0 := fun lw => hL lw 0 (by omega)
  have hL1 := fun lw => hL lw 1 (by omega)
  have hL2 := fun lw => hL lw 2 (by omega)
  rw [hx0.out] at hL0
  rw [hx1.out] at hL1
  rw [hx2.out] at hL2
  have c13 := sumA_cell hg1d (fill_len l 0 hl) 0 (by omega)
  have c15 := sumA_cell hg13 (fill_len l 1 hl) 1 (by omega)
  have c17 := sumA_cell hg15 (fill_len l 2 hl) 2 (by omega)
  have f13 := blk_free hg1d 0
  have f15 := blk_free hg13 1
  have f17 := blk_free hg15 2
  clear hL
  replace hL0 := hide hL0
  replace hL1 := hide hL1
  replace hL2 := hide hL2
  replace hg13 := hide hg13
  replace hg15 := hide hg15
  replace hg17 := hide hg17
  replace gr13 := hide gr13
  replace gr15 := hide gr15
  replace gr17 := hide gr17
  replace hgd := hide hgd
  replace hg0d := hide hg0d
  replace hg1d := hide hg1d
  replace hBd := hide hBd
  replace hbd := hide hbd
  refine wpWS_seg [13, 15, 17] wx.heap.size (fun k => k = w.heap.size + 1) 0 13 (fuel := 5) (by as_aux_lemma => kernel_rfl) (fun d _ _ _ _ h => by cases d <;> exact h) (by as_aux_lemma => kernel_rfl) (by as_aux_lemma => kernel_rfl) ?_
  simp only [List.drop_zero, List.take_succ_cons, List.take_zero]
  iterate 3 (refine wpQS_step (fun K hK => ?_); go_simp; refine hK _ ?_; clear hK K)
  (refine wpQS_step (fun K hK => ?_); go_simp; apply Exists.intro; refine ⟨fun l => ?_, hK _ ?_⟩; (go_at_call 70; refine (hL0.out l).mono ?_; rintro e w' ⟨rfl, hb⟩; exact ⟨rfl, hb⟩); clear hK K)
  iterate 3 (refine wpQS_step (fun K hK => ?_); go_simp; refine hK _ ?_; clear hK K)
  (refine wpQS_step (fun K hK => ?_); go_simp; apply Exists.intro; refine ⟨fun l => ?_, hK _ ?_⟩; (go_at_call 70; refine (hL1.out l).mono ?_; rintro e w' ⟨rfl, hb⟩; exact ⟨rfl, hb⟩); clear hK K)
  iterate 3 (refine wpQS_step (fun K hK => ?_); go_simp; refine hK _ ?_; clear hK K)
  (refine wpQS_step (fun K hK => ?_); go_simp; apply Exists.intro; refine ⟨fun l => ?_, hK _ ?_⟩; (go_at_call 70; refine (hL2.out l).mono ?_; rintro e w' ⟨rfl, hb⟩; exact ⟨rfl, hb⟩); clear hK K)
  iterate 1 (refine wpQS_step (fun K hK => ?_); go_simp; refine hK _ ?_; clear hK K)
  refine wpQF_nil ?_
  clear hL0 hL1 hL2
  refine wpW_step 13 rfl (by as_aux_lemma => kernel_rfl) (fun K hK => ?_)
  go_simp
  refine hK _ _ (relS_of rfl (keptS_grown gr13.out hzd)) ?_
  clear hK K
  refine wpW_step 14 rfl (by as_aux_lemma => kernel_rfl) (fun K hK => ?_)
  go_simp
  refine hK _ _ (relS_refl _ _ _ _ _) ?_
  clear hK K
  refine wpW_step 15 rfl (by as_aux_lemma => kernel_rfl) (fun K hK => ?_)
  go_simp
  refine hK _ _ (relS_of rfl (keptS_grown gr15.out (Nat.le_trans hzd gr13.out.size))) ?_
  clear hK K
  refine wpW_step 16 rfl (by as_aux_lemma => kernel_rfl) (fun K hK => ?_)
  go_simp
  refine hK _ _ (relS_refl _ _ _ _ _) ?_
  clear hK K
  refine wpW_step 17 rfl (by as_aux_lemma => kernel_rfl) (fun K hK => ?_)
  go_simp
  refine hK _ _ (relS_of rfl (keptS_grown gr17.out (Nat.le_trans hzd (Nat.le_trans gr13.out.size gr15.out.size)))) ?_
  clear hK K
  refine wpW_done (by as_aux_lemma => kernel_rfl) ?_ _
  clear e13 e15 e17 c13 c15 c17 f13 f15 f17
  have hz17 : wd.heap.size ≤ w17.heap.size := Nat.le_trans gr13.out.size (Nat.le_trans gr15.out.size gr17.out.size)
  have hz15 : wd.heap.size ≤ w15.heap.size := Nat.le_trans gr13.out.size gr15.out.size
  have hz13 : wd.heap.size ≤ w13.heap.size := gr13.out.size
  have hgd17 : w17.heap[g]? = some (.cells (sumA l) 56 (0, 0)) := grown_other gr17.out (by omega) (by omega) (grown_other gr15.out (by omega) (by omega) (grown_other gr13.out (by omega) (by omega) hgd.out))
  have hgr17 : w17.heap[w.heap.size]? = some (.cells (sumA z29) 59 (0, 0)) := grown_other gr17.out (by omega) (by omega) (grown_other gr15.out (by omega) (by omega) (grown_other gr13.out (by omega) (by omega) hg0d.out))
  have hB17 : Below w.heap.size w w17 := ((hBd.out.trans (below_grown gr13.out (by omega) (by omega))).trans (below_grown gr15.out (by omega) (by omega))).trans (below_grown gr17.out (by omega) (by omega))
  have hg17' := hg17.out
  clear hg13 hg15 hg17 gr13 gr15 gr17 hgd hg0d hg1d hBd hbd hx0 hx1 hx2 hg0 hg1 hgx hB h
  replace hgd17 := hide hgd17
  replace hgr17 := hide hgr17
  replace hB17 := hide hB17
  replace hg17' := hide hg17'
  go_wp2_with fail
  go_loopw [23] (fun i wr => ∃ k : Nat, k ≤ 26 ∧ i = .int .i64 (k : Int) ∧ wr.heap[w.heap.size + 1]? = some (.cells (sumA (fillL l (3 + k))) 59 (0, 0)) ∧ wr.heap[g]? = some (.cells (sumA l) 56 (0, 0)) ∧ wr.heap[w.heap.size]? = some (.cells (sumA z29) 59 (0, 0)) ∧ Below w.heap.size w wr ∧ w.heap.size + 2 ≤ wr.heap.size) (fun i _ => 26 - (intOf i).toNat)
  case atStart => exact ⟨0, by omega, rfl, hg17'.out, hgd17.out, hgr17.out, hB17.out, by omega⟩
  case round =>
    obtain ⟨k, hk, rfl, hs, hg, hr, hB, hzr⟩ := hrel
    by_cases hlt : k < 26
    · obtain ⟨x, hx⟩ : ∃ x, l.getD (3 + k) 0 = x := ⟨_, rfl⟩
      have hji : (k : Int) < 26 := by omega
      have hj0 : (0 : Int) ≤ (k : Int) := by omega
      have hL := load_at hg hl (3 + k) (by omega)
      rw [hx] at hL
      obtain ⟨w9, e9, hs9, gr9⟩ := fill_step hl (by omega : 3 + k < 29) hs x hx.symm
      have c9 := sumA_cell hs (fill_len l (3 + k) hl) (3 + k) (by omega)
      have f9 := blk_free hs (3 + k)
      have s1 : IntKind.i64.wrap ((k : Int) + 1) = ((k + 1 : Nat) : Int) := by rw [wraps62 _ (by omega) (by omega)]; omega
      replace hs := hide hs
      replace hg := hide hg
      replace hr := hide hr
      replace hB := hide hB
      replace hL := hide hL
      replace hs9 := hide hs9
      replace gr9 := hide gr9
      replace hx := hide hx
      go_wp2_with fail
      refine hL.out.mono ?_
      rintro e w' ⟨rfl, rfl⟩
      go_wp2_with fail
      have hz9 := gr9.out.size
      exact ⟨⟨k + 1, by omega, by go_num, hs9.out, grown_other gr9.out (by omega) (by omega) hg.out, grown_other gr9.out (by omega) (by omega) hr.out, hB.out.trans (below_grown gr9.out (by omega) (by omega)), by omega⟩, by simp [intOf]; omega⟩
    · have hji : ¬ (k : Int) < 26 := by omega
      obtain rfl : k = 26 := by omega
      rw [fill_all l hl] at hs
      have hrg := sumA_range hs
      have htr := sumA_there hr (show z29.length = 29 from rfl)
      replace hs := hide hs
      replace hg := hide hg
      replace hr := hide hr
      replace hB := hide hB
      replace hrg := hide hrg
      replace htr := hide htr
      go_upto_region 10 with fail
      apply wp_region_lit
      refine wpList_load_mid rfl 59 (.tmp 3) rfl (w.heap.size + 1) 0 rfl (l.map (Value.int .i64)) _ hrg.out Try.underlying59 rfl (by rw [List.length_map, hl]; rfl) ?_
      refine wpList_store_mid rfl 59 (.tmp 2) (.tmp 36) rfl w.heap.size 0 (sumA l) rfl rfl (by rw [sumA_size, hl]; exact htr.out) (by rw [sumA_size, hl]; rfl) (sumA_one _) ?_
      refine wpList_nil ?_
      have hgz : (wr.setCells w.heap.size 0 (sumA l).toList).heap[w.heap.size]? = some (.cells (sumA l) 59 (0, 0)) := sumA_store (l := z29) hr.out (by rw [hl]; rfl)
      have hBz := below_cells (Nat.le_refl w.heap.size) (sumA l).toList 0 hB.out
      obtain ⟨wz, hwz⟩ : ∃ x, wr.setCells w.heap.size 0 (sumA l).toList = x := ⟨_, rfl⟩
      rw [hwz] at hgz hBz ⊢
      have hld : (loadVar 59 ⟨w.heap.size, 0, none⟩).run Try.prog wz = .ok (.agg (sumA l)) wz := run_loadVar_mid wz w.heap.size 0 59 (l.map (Value.int .i64)) _ (sumA_range hgz) Try.underlying59 rfl (by rw [List.length_map, hl]; rfl)
      clear hwz
      replace hld := hide hld
      replace hgz := hide hgz
      replace hBz := hide hBz
      go_simp
      go_wp2_with fail
      have q1 := hld.out
      refine bodyPost_ret (v := .agg (sumA l)) (by simp [results, Try.results30, asAddr, q1]) rfl ⟨rfl, hBz.out⟩
end Count
end Go.Proofs.Ytniieckjooahfaa
