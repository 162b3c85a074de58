/- six.RightExt and the law's rightExt by contract. Conditions: slices of bytes that read as lists. -/
import Derived.Test.YtdmgbngdpjcliaaSixPlain
namespace Go.Proofs.Ytdmgbngdpjcliaa
open Go.RowKit Go.ChangeShapes Go.WideShapes Go.ChangeAt Go.Deep
namespace Six
theorem rightExtB_no {k at_ : Int} {xs : List UInt8} {n : Nat} (hl : xs.length = n) (h : ¬ (isB k = true ∧ n % 8 = 7)) : rightExtB k at_ xs = false := by
  unfold rightExtB
  rw [hl]
  rcases hk : isB k with _ | _
  · rfl
  · have : ¬ n % 8 = 7 := fun h2 => h ⟨hk, h2⟩
    simp [this]
theorem rightExtB_as {k at_ : Int} {xs : List UInt8} {n v0 q : Nat} (hl : xs.length = n) (hk : isB k = true) (h8 : n % 8 = 7) (hv : (xs.getD 0 0).toNat = v0) (hq : n / 8 = q) :
    rightExtB k at_ xs = decide (¬ (k = 0 ∧ 0 < at_) ∧ n ≤ 2047 ∧ (k = 44 → n = 7) ∧ (k ≠ 44 → v0 = q)) := by
  unfold rightExtB
  rw [hl, hk, hv, hq, Bool.eq_iff_iff, decide_eq_true_iff]
  by_cases h44 : k = 44
  · simp [h44, h8]
  · by_cases h0 : k = 0 <;> simp [h44, h8, h0]
set_option maxRecDepth 4000 in
set_option maxHeartbeats 4000000 in
theorem rightExt_any (k at_ : Int) (A : Option Addr) (n c : Nat) (xs : List UInt8) (w : World) (hx : IsB w w.heap.size A n xs) (hn : n ≤ maxLen) :
    Calls Try.prog 94 #[.agg #[.int .i64 k, .slice A n c], .int .i64 at_] w fun e w' => e = .returned (.bool (rightExtB k at_ xs)) ∧ Below w.heap.size w w' := by
  unfold maxLen at hn
  obtain ⟨r, hr⟩ : ∃ r, rightExtB k at_ xs = r := ⟨_, rfl⟩
  rw [hr]
  have hxl := hx.1
  have hbox := blk_new w 73 #[.int .i64 k, .slice A n c]
  obtain ⟨w1, hw1⟩ : ∃ w1, w.alloc (.cells #[.int .i64 k, .slice A n c] 73) = w1 := ⟨_, rfl⟩
  have hbb : Below w.heap.size w w1 := hw1 ▸ (Below.refl _ _).alloc (Nat.le_refl _) _
  have hlt : w.heap.size < w1.heap.size := by rw [← hw1]; simp
  rw [hw1] at hbox
  have hcg := blk_cell hbox
  have hx1 := hx.on hbb
  replace hx := hide hx
  replace hbb := hide hbb
  replace hbox := hide hbox
  by_cases h8 : n % 8 = 7
  · have m7 : ((n : Int) % 8 != 7) = false := by rw [bne_eq_false_iff_eq]; omega
    obtain ⟨b, off, v0, rfl, hbl, hv0, hv0l, hc0⟩ := hx1.byte (i := 0) (by omega)
    rw [Nat.add_zero] at hc0
    obtain ⟨q, hq⟩ : ∃ q, n / 8 = q := ⟨_, rfl⟩
    have s1 : (n : Int).tdiv 8 = (q : Int) := by rw [Int.tdiv_eq_ediv_of_nonneg (by omega)]; omega
    have s1' : (n : Int) / 8 = (q : Int) := by omega
    have s2 : IntKind.i64.wrap (q : Int) = (q : Int) := wraps62 _ (by omega) (by omega)
    have s3 : IntKind.i64.wrap (v0 : Int) = (v0 : Int) := wraps62 _ (by omega) (by omega)
    have i0 : (0 : Int) < (n : Int) := by omega
    have j0 : 0 < n := by omega
    have hd0 := fun l : Later w1 => l.cell hc0
    have hcl := fun (l : Later w1) (o : Nat) => blk_cell (blk_below l.hb hlt hbox.out) o
    have hp := fun hk => hr.symm.trans (rightExtB_as (k := k) (at_ := at_) hxl hk h8 hv0 hq)
    clear hc0
    replace hv0 := hide hv0
    replace hq := hide hq
    replace hx1 := hide hx1
    replace h8 := hide h8
    replace hxl := hide hxl
    replace hp := hide hp
    replace hr := hide hr
    go_enter Try.func94, Try.ntmps94
    go_wp2_with fail
    refine (is_any k _).mono ?_
    rintro e w' ⟨rfl, rfl⟩
    clear hw1
    rcases hk : isB k with _ | _
    · have hno := hr.out.symm.trans <| rightExtB_no (k := k) (at_ := at_) hxl.out (fun h => by rw [hk] at h; cases h.1)
      replace hk := hide hk
      replace hno := hide hno
      go_wp2_with fail
      go_ret
      exact ⟨ret_bool hno.out.symm, hbb.out⟩
    · replace hp := hide (hp.out hk)
      replace hk := hide hk
      go_wp2_with fail
      all_goals (try (go_ret; exact ⟨ret_bool (by rw [hp.out]; first | exact (decide_eq_false (by omega)).symm | (rw [Bool.eq_iff_iff, beq_iff_eq, decide_eq_true_iff]; (first | omega | (have h44 := ‹(k == 44) = true›; simp only [beq_iff_eq] at h44; omega) | (have h44 := ‹(k == 44) = false›; simp only [beq_eq_false_iff_ne, ne_eq] at h44; omega)))), hbb.out⟩))
      all_goals
        clear hcg
        refine wp_region_L (by as_aux_lemma => kernel_rfl) ?_
        refine wpE_seg 0 11 (fuel := 0) (by as_aux_lemma => kernel_rfl) (fun d _ _ _ _ h => by cases d <;> exact h) (by as_aux_lemma => kernel_rfl) (by as_aux_lemma => kernel_rfl) ?_
        simp only [List.drop_zero, List.take_succ_cons, List.take_zero]
        iterate 11 (refine wpQE_step (fun K hK => ?_); go_simp; refine hK _ ?_; clear hK K)
        refine wpQE_nil ?_
        refine wpE_done (by as_aux_lemma => kernel_rfl) (fun w3 hb3 => ?_) 0
        have hb03 := hbb.out.trans (hb3.mono (Nat.le_of_lt hlt))
        clear hb3 hcl hd0
        replace hb03 := hide hb03
        go_wp2_with fail
        go_ret
        exact ⟨ret_bool (by rw [hp.out, Bool.eq_iff_iff, beq_iff_eq, decide_eq_true_iff]; (first | omega | (have h44 := ‹(k == 44) = true›; simp only [beq_iff_eq] at h44; omega) | (have h44 := ‹(k == 44) = false›; simp only [beq_eq_false_iff_ne, ne_eq] at h44; omega))), hb03.out⟩
  · have m7 : ((n : Int) % 8 != 7) = true := by rw [bne_iff_ne]; omega
    have hno := hr.symm.trans <| rightExtB_no (k := k) (at_ := at_) hxl (fun h => h8 h.2)
    replace hx1 := hide hx1
    replace h8 := hide h8
    replace hxl := hide hxl
    replace hno := hide hno
    replace hr := hide hr
    go_enter Try.func94, Try.ntmps94
    go_wp2_with fail
    refine (is_any k _).mono ?_
    rintro e w' ⟨rfl, rfl⟩
    clear hw1
    rcases hk : isB k with _ | _
    all_goals
      replace hk := hide hk
      go_wp2_with fail
      all_goals (go_ret; exact ⟨ret_bool hno.out.symm, hbb.out⟩)
set_option maxRecDepth 4000 in
set_option maxHeartbeats 4000000 in
theorem lawRightExt_any (k at_ : Int) (A : Option Addr) (n c : Nat) (xs : List UInt8) (w : World) (hx : IsB w w.heap.size A n xs) (hn : n ≤ maxLen) :
    Calls Try.prog 44 #[.agg #[.int .i64 k, .slice A n c], .int .i64 at_] w fun e w' => e = .returned (.bool (rightExtB k at_ xs)) ∧ Below w.heap.size w w' := by
  unfold maxLen at hn
  obtain ⟨r, hr⟩ : ∃ r, rightExtB k at_ xs = r := ⟨_, rfl⟩
  rw [hr]
  have hxl := hx.1
  have hbox := blk_new w 73 #[.int .i64 k, .slice A n c]
  obtain ⟨w1, hw1⟩ : ∃ w1, w.alloc (.cells #[.int .i64 k, .slice A n c] 73) = w1 := ⟨_, rfl⟩
  have hbb : Below w.heap.size w w1 := hw1 ▸ (Below.refl _ _).alloc (Nat.le_refl _) _
  have hlt : w.heap.size < w1.heap.size := by rw [← hw1]; simp
  rw [hw1] at hbox
  have hcg := blk_cell hbox
  have hx1 := hx.on hbb
  replace hx := hide hx
  replace hbb := hide hbb
  replace hbox := hide hbox
  by_cases h8 : n % 8 = 7
  · have m7 : ((n : Int) % 8 != 7) = false := by rw [bne_eq_false_iff_eq]; omega
    obtain ⟨b, off, v0, rfl, hbl, hv0, hv0l, hc0⟩ := hx1.byte (i := 0) (by omega)
    rw [Nat.add_zero] at hc0
    obtain ⟨q, hq⟩ : ∃ q, n / 8 = q := ⟨_, rfl⟩
    have s1 : (n : Int).tdiv 8 = (q : Int) := by rw [Int.tdiv_eq_ediv_of_nonneg (by omega)]; omega
    have s1' : (n : Int) / 8 = (q : Int) := by omega
    have s2 : IntKind.i64.wrap (q : Int) = (q : Int) := wraps62 _ (by omega) (by omega)
    have s3 : IntKind.i64.wrap (v0 : Int) = (v0 : Int) := wraps62 _ (by omega) (by omega)
    have i0 : (0 : Int) < (n : Int) := by omega
    have j0 : 0 < n := by omega
    have hd0 := fun l : Later w1 => l.cell hc0
    have hcl := fun (l : Later w1) (o : Nat) => blk_cell (blk_below l.hb hlt hbox.out) o
    have hp := fun hk => hr.symm.trans (rightExtB_as (k := k) (at_ := at_) hxl hk h8 hv0 hq)
    clear hc0
    replace hv0 := hide hv0
    replace hq := hide hq
    replace hx1 := hide hx1
    replace h8 := hide h8
    replace hxl := hide hxl
    replace hp := hide hp
    replace hr := hide hr
    go_enter Try.func44, Try.ntmps44
    go_wp2_with fail
    refine (lawIs_any k _).mono ?_
    rintro e w' ⟨rfl, rfl⟩
    clear hw1
    rcases hk : isB k with _ | _
    · have hno := hr.out.symm.trans <| rightExtB_no (k := k) (at_ := at_) hxl.out (fun h => by rw [hk] at h; cases h.1)
      replace hk := hide hk
      replace hno := hide hno
      go_wp2_with fail
      go_ret
      exact ⟨ret_bool hno.out.symm, hbb.out⟩
    · replace hp := hide (hp.out hk)
      replace hk := hide hk
      go_wp2_with fail
      all_goals (try (go_ret; exact ⟨ret_bool (by rw [hp.out]; first | exact (decide_eq_false (by omega)).symm | (rw [Bool.eq_iff_iff, beq_iff_eq, decide_eq_true_iff]; (first | omega | (have h44 := ‹(k == 44) = true›; simp only [beq_iff_eq] at h44; omega) | (have h44 := ‹(k == 44) = false›; simp only [beq_eq_false_iff_ne, ne_eq] at h44; omega)))), hbb.out⟩))
      all_goals
        clear hcg
        refine wp_region_L (by as_aux_lemma => kernel_rfl) ?_
        refine wpE_seg 0 11 (fuel := 0) (by as_aux_lemma => kernel_rfl) (fun d _ _ _ _ h => by cases d <;> exact h) (by as_aux_lemma => kernel_rfl) (by as_aux_lemma => kernel_rfl) ?_
        simp only [List.drop_zero, List.take_succ_cons, List.take_zero]
        iterate 11 (refine wpQE_step (fun K hK => ?_); go_simp; refine hK _ ?_; clear hK K)
        refine wpQE_nil ?_
        refine wpE_done (by as_aux_lemma => kernel_rfl) (fun w3 hb3 => ?_) 0
        have hb03 := hbb.out.trans (hb3.mono (Nat.le_of_lt hlt))
        clear hb3 hcl hd0
        replace hb03 := hide hb03
        go_wp2_with fail
        go_ret
        exact ⟨ret_bool (by rw [hp.out, Bool.eq_iff_iff, beq_iff_eq, decide_eq_true_iff]; (first | omega | (have h44 := ‹(k == 44) = true›; simp only [beq_iff_eq] at h44; omega) | (have h44 := ‹(k == 44) = false›; simp only [beq_eq_false_iff_ne, ne_eq] at h44; omega))), hb03.out⟩
  · have m7 : ((n : Int) % 8 != 7) = true := by rw [bne_iff_ne]; omega
    have hno := hr.symm.trans <| rightExtB_no (k := k) (at_ := at_) hxl (fun h => h8 h.2)
    replace hx1 := hide hx1
    replace h8 := hide h8
    replace hxl := hide hxl
    replace hno := hide hno
    replace hr := hide hr
    go_enter Try.func44, Try.ntmps44
    go_wp2_with fail
    refine (lawIs_any k _).mono ?_
    rintro e w' ⟨rfl, rfl⟩
    clear hw1
    rcases hk : isB k with _ | _
    all_goals
      replace hk := hide hk
      go_wp2_with fail
      all_goals (go_ret; exact ⟨ret_bool hno.out.symm, hbb.out⟩)
end Six
end Go.Proofs.Ytdmgbngdpjcliaa
