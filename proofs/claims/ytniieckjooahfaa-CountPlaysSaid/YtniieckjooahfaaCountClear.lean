/- count.Board's Clear, by contract. Condition: a board of 29 numbers. -/
import Derived.Test.YtniieckjooahfaaCountSum
namespace Go.Proofs.Ytniieckjooahfaa
open Go.RowKit Go.ChangeShapes Go.WideShapes Go.ChangeAt Go.Deep
namespace Count
/-- The first k zeros, the rest of a sum. -/
def wipeL (l : List Int) (k : Nat) : List Int := z29.take k ++ l.drop k
theorem wipe_len (l : List Int) (k : Nat) (hl : l.length = 29) : (wipeL l k).length = 29 := by simp [wipeL, z29, hl]; omega
theorem wipe_get (l : List Int) (k : Nat) (hk : k < 29) : (wipeL l k).getD k 0 = l.getD k 0 := by
  have h1 : (z29.take k).length = k := by simp [z29]; omega
  unfold wipeL List.getD
  rw [List.getElem?_append_right (by omega), h1, Nat.sub_self, List.getElem?_drop]
  rfl
theorem wipe_next (l : List Int) (k : Nat) (hl : l.length = 29) (hk : k < 29) : (wipeL l k).set k 0 = wipeL l (k + 1) := by
  have h1 : (z29.take k).length = k := by simp [z29]; omega
  have h2 : z29[k]? = some 0 := by unfold z29; rw [List.getElem?_replicate, if_pos hk]
  unfold wipeL
  rw [List.set_append_right _ _ (by omega), h1, Nat.sub_self, List.take_add_one, h2, List.drop_eq_getElem_cons (by omega : k < l.length)]
  simp only [List.set_cons_zero, Option.toList_some, List.append_assoc, List.cons_append, List.nil_append]
theorem wipe_all (l : List Int) (hl : l.length = 29) : wipeL l 29 = z29 := by
  unfold wipeL
  rw [List.take_of_length_le (by simp [z29]), List.drop_of_length_le (by omega), List.append_nil]
theorem swap_step {w : World} {g k : Nat} {t : TypeId} {l : List Int} (hl : l.length = 29) (hk : k < 29) (h : w.heap[g]? = some (.cells (sumA (wipeL l k)) t (0, 0))) (x : Int) (hx : l.getD k 0 = x) :
    Calls Try.prog 78 #[.pointer (some ⟨g, k, none⟩), .int .i64 0] w fun e w' => e = .returned (.int .i64 x) ∧ w'.heap[g]? = some (.cells (sumA (wipeL l (k + 1))) t (0, 0)) ∧ w.grownBy w' (some g) := by
  refine (swap_at h (wipe_len l k hl) k hk 0).mono ?_
  rintro e w' ⟨rfl, h1, h2⟩
  rw [wipe_next l k hl hk] at h1
  exact ⟨by rw [wipe_get l k hk, hx], h1, h2⟩
theorem grown_far {a b c : World} {g s : Nat} (h : a.grownBy b (some g)) (k : b.grownBy c (some s)) (hs : a.heap.size ≤ s) : a.grownBy c (some g) :=
  ⟨k.os.trans h.os, k.tape.trans h.tape, k.output.trans h.output, Nat.le_trans h.size k.size, fun i hi hne => (k.block i (Nat.lt_of_lt_of_le hi h.size) (fun e => by cases e; omega)).trans (h.block i hi hne)⟩
theorem grown_of {a b : World} {g : Nat} (h : Below a.heap.size a b) : a.grownBy b (some g) := ⟨h.os, h.tape, h.output, h.size, fun i hi _ => h.block i hi⟩
theorem keptS_grown' {S g : Nat} {Q : Nat → Prop} {w w' : World} (h : w.grownBy w' (some g)) (hS : S ≤ w.heap.size) (hg : Q g) : KeptS S Q w w' :=
  ⟨h.os, h.tape, h.output, h.size, fun k hk hne => h.block k (by omega) (fun e => by cases e; exact hne hg)⟩
set_option maxRecDepth 20000 in
set_option maxHeartbeats 8000000 in
theorem clear_any (g : Nat) (l : List Int) (w : World) (h : w.heap[g]? = some (.cells (sumA l) 56 (0, 0))) (hl : l.length = 29) :
    Calls Try.prog 28 #[.pointer (some ⟨g, 0, none⟩)] w fun e w' => e = .returned (.agg (sumA l)) ∧ w'.heap[g]? = some (.cells (sumA z29) 56 (0, 0)) ∧ w.grownBy w' (some g) := by
  have hgl : g < w.heap.size := by
    rcases Nat.lt_or_ge g w.heap.size with h1 | h1
    · exact h1
    · rw [Array.getElem?_eq_none h1] at h; cases h
  obtain ⟨wx, hwx, hg0, hg1, hB, hz⟩ := zeros_made w
  have hgx := blk_below hB hgl h
  rw [show sumA z29 = sumA (fillL l 0) from by simp [fillL]] at hg1
  rw [show sumA l = sumA (wipeL l 0) from by simp [wipeL]] at hgx
  obtain ⟨x0, hx0⟩ : ∃ x, l.getD 0 0 = x := ⟨_, rfl⟩
  obtain ⟨x1, hx1⟩ : ∃ x, l.getD 1 0 = x := ⟨_, rfl⟩
  obtain ⟨x2, hx2⟩ : ∃ x, l.getD 2 0 = x := ⟨_, rfl⟩
  replace hg0 := hide hg0
  replace hg1 := hide hg1
  replace hgx := hide hgx
  replace hB := hide hB
  replace h := hide h
  replace hx0 := hide hx0
  replace hx1 := hide hx1
  replace hx2 := hide hx2
  go_enter Try.func28, Try.ntmps28
  go_upto_region 4 with fail
  change Code.wp _ _ _ _ ((w.alloc (.cells (Array.replicate 29 (.int .i64 0)) 59)).alloc (.cells (Array.replicate 29 (.int .i64 0)) 59))
  rw [hwx]
  clear hwx
  refine wp_region_W [3, 7, 11, 13, 15, 17] wx.heap.size (fun k => k = g ∨ k = w.heap.size + 1) (by as_aux_lemma => kernel_rfl) ?_
  intro wd hbd
  have hzd := hbd.size
  have hgd := blk_below hbd (by omega) hgx.out
  have hg0d := blk_below hbd (by omega) hg0.out
  have hg1d := blk_below hbd (by omega) hg1.out
  have hBd := hB.out.trans (hbd.mono (by omega))
  replace hgd := hide hgd
  replace hg0d := hide hg0d
  replace hg1d := hide hg1d
  replace hBd := hide hBd
  replace hbd := hide hbd
  refine wpWS_seg [3, 7, 11, 13, 15, 17] wx.heap.size (fun k => k = g ∨ k = w.heap.size + 1) 0 3 (fuel := 15) (by as_aux_lemma => kernel_rfl) (fun d _ _ _ _ h => by cases d <;> exact h) (by as_aux_lemma => kernel_rfl) (by as_aux_lemma => kernel_rfl) ?_
  simp only [List.drop_zero, List.take_succ_cons, List.take_zero]
  iterate 3 (refine wpQS_step (fun K hK => ?_); go_simp; refine hK _ ?_; clear hK K)
  refine wpQF_nil ?_
  refine wpWS_seg [3, 7, 11, 13, 15, 17] wx.heap.size (fun k => k = g ∨ k = w.heap.size + 1) 4 3 (fuel := 12) (by as_aux_lemma => kernel_rfl) (fun d _ _ _ _ h => by cases d <;> exact h) (by as_aux_lemma => kernel_rfl) (by as_aux_lemma => kernel_rfl) ?_
  simp only [List.drop_succ_cons, List.drop_zero, List.take_succ_cons, List.take_zero]
  iterate 3 (refine wpQS_step (fun K hK => ?_); go_simp; refine hK _ ?_; clear hK K)
  refine wpQF_nil ?_
  refine wpWS_seg [3, 7, 11, 13, 15, 17] wx.heap.size (fun k => k = g ∨ k = w.heap.size + 1) 8 3 (fuel := 9) (by as_aux_lemma => kernel_rfl) (fun d _ _ _ _ h => by cases d <;> exact h) (by as_aux_lemma => kernel_rfl) (by as_aux_lemma => kernel_rfl) ?_
  simp only [List.drop_succ_cons, List.drop_zero, List.take_succ_cons, List.take_zero]
  iterate 3 (refine wpQS_step (fun K hK => ?_); go_simp; refine hK _ ?_; clear hK K)
  refine wpQF_nil ?_
  refine wpW_step 3 rfl (by as_aux_lemma => kernel_rfl) (fun K hK => ?_)
  go_simp
  go_at_call 78
  refine (swap_step hl (by omega) hgd.out x0 hx0.out).mono ?_
  rintro e w3 ⟨rfl, h3, g3⟩
  have z3 := g3.size
  refine hK _ _ (relS_of rfl (keptS_grown' g3 hzd (.inl rfl))) ?_
  clear hK K
  replace h3 := hide h3
  replace g3 := hide g3
  refine wpWS_seg [3, 7, 11, 13, 15, 17] wx.heap.size (fun k => k = g ∨ k = w.heap.size + 1) 12 1 (fuel := 7) (by as_aux_lemma => kernel_rfl) (fun d _ _ _ _ h => by cases d <;> exact h) (by as_aux_lemma => kernel_rfl) (by as_aux_lemma => kernel_rfl) ?_
  simp only [List.drop_succ_cons, List.drop_zero, List.take_succ_cons, List.take_zero]
  iterate 1 (refine wpQS_step (fun K hK => ?_); go_simp; refine hK _ ?_; clear hK K)
  refine wpQF_nil ?_
  refine wpW_step 7 rfl (by as_aux_lemma => kernel_rfl) (fun K hK => ?_)
  go_simp
  go_at_call 78
  refine (swap_step hl (by omega) h3.out x1 hx1.out).mono ?_
  rintro e w7 ⟨rfl, h7, g7⟩
  have z7 := g7.size
  refine hK _ _ (relS_of rfl (keptS_grown' g7 (by omega) (.inl rfl))) ?_
  clear hK K
  replace h7 := hide h7
  replace g7 := hide g7
  refine wpW_step 11 rfl (by as_aux_lemma => kernel_rfl) (fun K hK => ?_)
  go_simp
  go_at_call 78
  refine (swap_step hl (by omega) h7.out x2 hx2.out).mono ?_
  rintro e w11 ⟨rfl, h11, g11⟩
  have z11 := g11.size
  refine hK _ _ (relS_of rfl (keptS_grown' g11 (by omega) (.inl rfl))) ?_
  clear hK K
  have hs11 : w11.heap[w.heap.size + 1]? = some (.cells (sumA (fillL l 0)) 59 (0, 0)) := grown_other g11 (by omega) (by omega) (grown_other g7.out (by omega) (by omega) (grown_other g3.out (by omega) (by omega) hg1d.out))
  have hr11 : w11.heap[w.heap.size]? = some (.cells (sumA z29) 59 (0, 0)) := grown_other g11 (by omega) (by omega) (grown_other g7.out (by omega) (by omega) (grown_other g3.out (by omega) (by omega) hg0d.out))
  have hB11 : w.grownBy w11 (some g) := (((grown_of hBd.out).trans g3.out).trans g7.out).trans g11
  obtain ⟨w13, e13, hg13, gr13⟩ := fill_step hl (by omega : 0 < 29) hs11 x0 hx0.out.symm
  obtain ⟨w15, e15, hg15, gr15⟩ := fill_step hl (by omega : 1 < 29) hg13 x1 hx1.out.symm
  obtain ⟨w17, e17, hg17, gr17⟩ := fill_step hl (by omega : 2 < 29) hg15 x2 hx2.out.symm
  have c13 := sumA_cell hs11 (fill_len l 0 hl) 0 (by omega)
  have c15 := sumA_cell hg13 (fill_len l 1 hl) 1 (by omega)
  have c17 := sumA_cell hg15 (fill_len l 2 hl) 2 (by omega)
  have f13 := blk_free hs11 0
  have f15 := blk_free hg13 1
  have f17 := blk_free hg15 2
  have hz13 : w11.heap.size ≤ w13.heap.size := gr13.size
  have hz15 : w11.heap.size ≤ w15.heap.size := Nat.le_trans hz13 gr15.size
  have hz17 : w11.heap.size ≤ w17.heap.size := Nat.le_trans hz15 gr17.size
  replace h11 := hide h11
  replace g11 := hide g11
  replace hs11 := hide hs11
  replace hr11 := hide hr11
  replace hB11 := hide hB11
  replace hg13 := hide hg13
  replace hg15 := hide hg15
  replace hg17 := hide hg17
  replace gr13 := hide gr13
  replace gr15 := hide gr15
  replace gr17 := hide gr17
  refine wpW_step 13 rfl (by as_aux_lemma => kernel_rfl) (fun K hK => ?_)
  go_simp
  refine hK _ _ (relS_of rfl (keptS_grown' gr13.out (by omega) (.inr rfl))) ?_
  clear hK K
  refine wpW_step 14 rfl (by as_aux_lemma => kernel_rfl) (fun K hK => ?_)
  go_simp
  refine hK _ _ (relS_refl _ _ _ _ _) ?_
  clear hK K
  refine wpW_step 15 rfl (by as_aux_lemma => kernel_rfl) (fun K hK => ?_)
  go_simp
  refine hK _ _ (relS_of rfl (keptS_grown' gr15.out (by omega) (.inr rfl))) ?_
  clear hK K
  refine wpW_step 16 rfl (by as_aux_lemma => kernel_rfl) (fun K hK => ?_)
  go_simp
  refine hK _ _ (relS_refl _ _ _ _ _) ?_
  clear hK K
  refine wpW_step 17 rfl (by as_aux_lemma => kernel_rfl) (fun K hK => ?_)
  go_simp
  refine hK _ _ (relS_of rfl (keptS_grown' gr17.out (by omega) (.inr rfl))) ?_
  clear hK K
  refine wpW_done (by as_aux_lemma => kernel_rfl) ?_ _
  clear e13 e15 e17 c13 c15 c17 f13 f15 f17
  have hgd17 : w17.heap[g]? = some (.cells (sumA (wipeL l 3)) 56 (0, 0)) := grown_other gr17.out (by omega) (by omega) (grown_other gr15.out (by omega) (by omega) (grown_other gr13.out (by omega) (by omega) h11.out))
  have hgr17 : w17.heap[w.heap.size]? = some (.cells (sumA z29) 59 (0, 0)) := grown_other gr17.out (by omega) (by omega) (grown_other gr15.out (by omega) (by omega) (grown_other gr13.out (by omega) (by omega) hr11.out))
  have hB17 : w.grownBy w17 (some g) := grown_far (grown_far (grown_far hB11.out gr13.out (by omega)) gr15.out (by omega)) gr17.out (by omega)
  have hg17' := hg17.out
  clear hg13 hg15 hg17 gr13 gr15 gr17 hgd hg0d hg1d hBd hbd hx0 hx1 hx2 hg0 hg1 hgx hB h h3 g3 h7 g7 h11 g11 hs11 hr11 hB11
  replace hgd17 := hide hgd17
  replace hgr17 := hide hgr17
  replace hB17 := hide hB17
  replace hg17' := hide hg17'
  go_wp2_with fail
  go_loopw [23] (fun i wr => ∃ k : Nat, k ≤ 26 ∧ i = .int .i64 (k : Int) ∧ wr.heap[w.heap.size + 1]? = some (.cells (sumA (fillL l (3 + k))) 59 (0, 0)) ∧ wr.heap[g]? = some (.cells (sumA (wipeL l (3 + k))) 56 (0, 0)) ∧ wr.heap[w.heap.size]? = some (.cells (sumA z29) 59 (0, 0)) ∧ w.grownBy wr (some g) ∧ w.heap.size + 2 ≤ wr.heap.size) (fun i _ => 26 - (intOf i).toNat)
  case atStart => exact ⟨0, by omega, rfl, hg17'.out, hgd17.out, hgr17.out, hB17.out, by omega⟩
  case round =>
    obtain ⟨k, hk, rfl, hs, hg, hr, hB, hzr⟩ := hrel
    by_cases hlt : k < 26
    · obtain ⟨x, hx⟩ : ∃ x, l.getD (3 + k) 0 = x := ⟨_, rfl⟩
      have hji : (k : Int) < 26 := by omega
      have hj0 : (0 : Int) ≤ (k : Int) := by omega
      have s1 : IntKind.i64.wrap ((k : Int) + 1) = ((k + 1 : Nat) : Int) := by rw [wraps62 _ (by omega) (by omega)]; omega
      replace hs := hide hs
      replace hg := hide hg
      replace hr := hide hr
      replace hB := hide hB
      replace hx := hide hx
      go_wp2_with fail
      refine (swap_step hl (by omega) hg.out x hx.out).mono ?_
      rintro e w8 ⟨rfl, h8, g8⟩
      have z8 := g8.size
      have hs8 := grown_other g8 (by omega) (by omega) hs.out
      have hr8 := grown_other g8 (by omega) (by omega) hr.out
      have hB8 := hB.out.trans g8
      obtain ⟨w9, e9, hs9, gr9⟩ := fill_step hl (by omega : 3 + k < 29) hs8 x hx.out.symm
      have c9 := sumA_cell hs8 (fill_len l (3 + k) hl) (3 + k) (by omega)
      have f9 := blk_free hs8 (3 + k)
      clear hs hg hr hB
      replace h8 := hide h8
      replace g8 := hide g8
      replace hs8 := hide hs8
      replace hr8 := hide hr8
      replace hB8 := hide hB8
      replace hs9 := hide hs9
      replace gr9 := hide gr9
      go_wp2_with fail
      have hz9 := gr9.out.size
      exact ⟨⟨k + 1, by omega, by go_num, hs9.out, grown_other gr9.out (by omega) (by omega) h8.out, grown_other gr9.out (by omega) (by omega) hr8.out, grown_far hB8.out gr9.out (by omega), by omega⟩, by simp [intOf]; omega⟩
    · have hji : ¬ (k : Int) < 26 := by omega
      obtain rfl : k = 26 := by omega
      rw [fill_all l hl] at hs
      rw [wipe_all l hl] at hg
      have hrg := sumA_range hs
      have htr := sumA_there hr (show z29.length = 29 from rfl)
      replace hs := hide hs
      replace hg := hide hg
      replace hr := hide hr
      replace hB := hide hB
      replace hrg := hide hrg
      replace htr := hide htr
      go_upto_region 10 with fail
      apply wp_region_lit
      refine wpList_load_mid rfl 59 (.tmp 3) rfl (w.heap.size + 1) 0 rfl (l.map (Value.int .i64)) _ hrg.out Try.underlying59 rfl (by rw [List.length_map, hl]; rfl) ?_
      refine wpList_store_mid rfl 59 (.tmp 2) (.tmp 36) rfl w.heap.size 0 (sumA l) rfl rfl (by rw [sumA_size, hl]; exact htr.out) (by rw [sumA_size, hl]; rfl) (sumA_one _) ?_
      refine wpList_nil ?_
      have hgz : (wr.setCells w.heap.size 0 (sumA l).toList).heap[w.heap.size]? = some (.cells (sumA l) 59 (0, 0)) := sumA_store (l := z29) hr.out (by rw [hl]; rfl)
      have hb0 := below_cells (Nat.le_refl w.heap.size) (sumA l).toList 0 (Below.refl w.heap.size wr)
      have hgw := blk_below hb0 hgl hg.out
      have hBz : w.grownBy (wr.setCells w.heap.size 0 (sumA l).toList) (some g) := ⟨hb0.os.trans hB.out.os, hb0.tape.trans hB.out.tape, hb0.output.trans hB.out.output, Nat.le_trans hB.out.size hb0.size, fun i hi hne => (hb0.block i hi).trans (hB.out.block i hi hne)⟩
      clear hb0
      obtain ⟨wz, hwz⟩ : ∃ x, wr.setCells w.heap.size 0 (sumA l).toList = x := ⟨_, rfl⟩
      rw [hwz] at hgz hBz hgw ⊢
      have hld : (loadVar 59 ⟨w.heap.size, 0, none⟩).run Try.prog wz = .ok (.agg (sumA l)) wz := run_loadVar_mid wz w.heap.size 0 59 (l.map (Value.int .i64)) _ (sumA_range hgz) Try.underlying59 rfl (by rw [List.length_map, hl]; rfl)
      clear hwz
      replace hld := hide hld
      replace hgz := hide hgz
      replace hBz := hide hBz
      replace hgw := hide hgw
      go_simp
      go_wp2_with fail
      have q1 := hld.out
      refine bodyPost_ret (v := .agg (sumA l)) (by simp [results, Try.results28, asAddr, q1]) rfl ⟨rfl, hgw.out, hBz.out⟩
end Count
end Go.Proofs.Ytniieckjooahfaa
