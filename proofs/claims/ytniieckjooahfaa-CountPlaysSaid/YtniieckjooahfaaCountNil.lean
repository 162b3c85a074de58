/- count's calls on nil, by contract. No condition. -/
import Derived.Test.YtniieckjooahfaaCountPlus
namespace Go.Proofs.Ytniieckjooahfaa
open Go.RowKit Go.ChangeShapes Go.WideShapes Go.ChangeAt Go.Deep
namespace Count
set_option maxRecDepth 4000
theorem in_nil (n : Int) (w : World) : Calls Try.prog 27 #[.pointer none, .int .i64 n] w fun e w' => e = .returned (.tuple #[]) ∧ w = w' := by
  go_enter Try.func27, Try.ntmps27
  go_wp2_with fail
  refine bodyPost_ret (v := .tuple #[]) (by simp [results, Try.results27, go_sem]) rfl ⟨rfl, rfl⟩
theorem out_nil (n : Int) (w : World) : Calls Try.prog 29 #[.pointer none, .int .i64 n] w fun e w' => e = .returned (.tuple #[]) ∧ w = w' := by
  go_enter Try.func29, Try.ntmps29
  go_wp2_with fail
  refine bodyPost_ret (v := .tuple #[]) (by simp [results, Try.results29, go_sem]) rfl ⟨rfl, rfl⟩
theorem of_nil (n : Int) (w : World) : Calls Try.prog 31 #[.pointer none, .int .i64 n] w fun e w' => e = .returned (.int .i64 0) ∧ w = w' := by
  go_enter Try.func31, Try.ntmps31
  go_wp2_with fail
  first | (go_ret; exact ⟨rfl, rfl⟩) | (go_ret2; exact ⟨rfl, rfl⟩)
theorem take_nil (w : World) : Calls Try.prog 19 #[.pointer none] w fun e w' => e = .returned (.bool false) ∧ w = w' := by
  go_enter Try.func19, Try.ntmps19
  go_wp2_with fail
  first | (go_ret; exact ⟨rfl, rfl⟩) | (go_ret2; exact ⟨rfl, rfl⟩)
theorem give_nil (w : World) : Calls Try.prog 20 #[.pointer none] w fun e w' => e = .returned (.bool false) ∧ w = w' := by
  go_enter Try.func20, Try.ntmps20
  go_wp2_with fail
  first | (go_ret; exact ⟨rfl, rfl⟩) | (go_ret2; exact ⟨rfl, rfl⟩)
theorem taken_nil (w : World) : Calls Try.prog 21 #[.pointer none] w fun e w' => e = .returned (.int .i64 0) ∧ w = w' := by
  go_enter Try.func21, Try.ntmps21
  go_wp2_with fail
  first | (go_ret; exact ⟨rfl, rfl⟩) | (go_ret2; exact ⟨rfl, rfl⟩)
/-- A sum of zeros, in the second of two new blocks, goes to the first. -/
theorem zeros_made (w : World) : ∃ wx, (w.alloc (.cells (Array.replicate 29 (.int .i64 0)) 59)).alloc (.cells (Array.replicate 29 (.int .i64 0)) 59) = wx ∧ wx.heap[w.heap.size]? = some (.cells (sumA z29) 59 (0, 0)) ∧ wx.heap[w.heap.size + 1]? = some (.cells (sumA z29) 59 (0, 0)) ∧ Below w.heap.size w wx ∧ wx.heap.size = w.heap.size + 2 := by
  refine ⟨_, rfl, ?_, ?_, ((Below.refl _ _).alloc (Nat.le_refl _) _).alloc (by simp) _, by simp⟩
  · exact blk_old _ (by simp) (blk_new w _ _)
  · have h := blk_new (w.alloc (.cells (Array.replicate 29 (.int .i64 0)) 59)) 59 (Array.replicate 29 (.int .i64 0))
    rw [show (w.alloc (.cells (Array.replicate 29 (.int .i64 0)) 59)).heap.size = w.heap.size + 1 from by simp] at h
    exact h
set_option maxRecDepth 20000 in
set_option maxHeartbeats 4000000 in
theorem sum_nil (w : World) : Calls Try.prog 30 #[.pointer none] w fun e w' => e = .returned (.agg (sumA z29)) ∧ Below w.heap.size w w' := by
  obtain ⟨wx, hwx, hg0, hg1, hB, hz⟩ := zeros_made w
  have hrg := sumA_range hg1
  have htr : wx.there w.heap.size 0 29 := fun j hj => by
    rw [Nat.zero_add, blk_cell hg0, blk_free hg0, sumA_get _ _ (by simpa [z29] using hj)]
    simp
  replace hg0 := hide hg0
  replace hg1 := hide hg1
  replace hrg := hide hrg
  replace htr := hide htr
  replace hB := hide hB
  go_enter Try.func30, Try.ntmps30
  go_upto_region 3 with fail
  change Code.wp _ _ _ _ ((w.alloc (.cells (Array.replicate 29 (.int .i64 0)) 59)).alloc (.cells (Array.replicate 29 (.int .i64 0)) 59))
  rw [hwx]
  clear hwx
  apply wp_region_lit
  refine wpList_load_mid rfl 59 (.tmp 3) rfl (w.heap.size + 1) 0 rfl (z29.map (Value.int .i64)) _ hrg.out Try.underlying59 rfl rfl ?_
  refine wpList_store_mid rfl 59 (.tmp 2) (.tmp 7) rfl w.heap.size 0 (sumA z29) rfl rfl htr.out rfl (sumA_one _) ?_
  refine wpList_nil ?_
  have hgz : (wx.setCells w.heap.size 0 (sumA z29).toList).heap[w.heap.size]? = some (.cells (sumA z29) 59 (0, 0)) := sumA_store (l := z29) hg0.out rfl
  have hBz := below_cells (Nat.le_refl w.heap.size) (sumA z29).toList 0 hB.out
  obtain ⟨wz, hwz⟩ : ∃ x, wx.setCells w.heap.size 0 (sumA z29).toList = x := ⟨_, rfl⟩
  rw [hwz] at hgz hBz ⊢
  have hld : (loadVar 59 ⟨w.heap.size, 0, none⟩).run Try.prog wz = .ok (.agg (sumA z29)) wz := run_loadVar_mid wz w.heap.size 0 59 (z29.map (Value.int .i64)) _ (sumA_range hgz) Try.underlying59 rfl rfl
  clear hwz
  replace hld := hide hld
  replace hgz := hide hgz
  replace hBz := hide hBz
  go_simp
  go_wp2_with fail
  have q1 := hld.out
  refine bodyPost_ret (v := .agg (sumA z29)) (by simp [results, Try.results30, asAddr, q1]) rfl ⟨rfl, hBz.out⟩
set_option maxRecDepth 20000 in
set_option maxHeartbeats 4000000 in
theorem clear_nil (w : World) : Calls Try.prog 28 #[.pointer none] w fun e w' => e = .returned (.agg (sumA z29)) ∧ Below w.heap.size w w' := by
  obtain ⟨wx, hwx, hg0, hg1, hB, hz⟩ := zeros_made w
  have hrg := sumA_range hg1
  have htr : wx.there w.heap.size 0 29 := fun j hj => by
    rw [Nat.zero_add, blk_cell hg0, blk_free hg0, sumA_get _ _ (by simpa [z29] using hj)]
    simp
  replace hg0 := hide hg0
  replace hg1 := hide hg1
  replace hrg := hide hrg
  replace htr := hide htr
  replace hB := hide hB
  go_enter Try.func28, Try.ntmps28
  go_upto_region 3 with fail
  change Code.wp _ _ _ _ ((w.alloc (.cells (Array.replicate 29 (.int .i64 0)) 59)).alloc (.cells (Array.replicate 29 (.int .i64 0)) 59))
  rw [hwx]
  clear hwx
  apply wp_region_lit
  refine wpList_load_mid rfl 59 (.tmp 3) rfl (w.heap.size + 1) 0 rfl (z29.map (Value.int .i64)) _ hrg.out Try.underlying59 rfl rfl ?_
  refine wpList_store_mid rfl 59 (.tmp 2) (.tmp 7) rfl w.heap.size 0 (sumA z29) rfl rfl htr.out rfl (sumA_one _) ?_
  refine wpList_nil ?_
  have hgz : (wx.setCells w.heap.size 0 (sumA z29).toList).heap[w.heap.size]? = some (.cells (sumA z29) 59 (0, 0)) := sumA_store (l := z29) hg0.out rfl
  have hBz := below_cells (Nat.le_refl w.heap.size) (sumA z29).toList 0 hB.out
  obtain ⟨wz, hwz⟩ : ∃ x, wx.setCells w.heap.size 0 (sumA z29).toList = x := ⟨_, rfl⟩
  rw [hwz] at hgz hBz ⊢
  have hld : (loadVar 59 ⟨w.heap.size, 0, none⟩).run Try.prog wz = .ok (.agg (sumA z29)) wz := run_loadVar_mid wz w.heap.size 0 59 (z29.map (Value.int .i64)) _ (sumA_range hgz) Try.underlying59 rfl rfl
  clear hwz
  replace hld := hide hld
  replace hgz := hide hgz
  replace hBz := hide hBz
  go_simp
  go_wp2_with fail
  have q1 := hld.out
  refine bodyPost_ret (v := .agg (sumA z29)) (by simp [results, Try.results28, asAddr, q1]) rfl ⟨rfl, hBz.out⟩
end Count
end Go.Proofs.Ytniieckjooahfaa
