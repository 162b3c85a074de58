/- pfx: Right: may a prefix be. Conditions: numbers of 64 bits. -/
import Derived.Test.YtcpokkkdmenmgaaDoorQConfRemarks9
import Derived.Test.YtcpokkkdmenmgaaDoorQConfRemarks8
import Derived.Test.YtcpokkkdmenmgaaDoorQConfRemarks7
import Derived.Test.YtcpokkkdmenmgaaDoorQConfRemarks2
import Derived.Lib.ConvBytes
namespace Go.Proofs.YtcpokkkdmenmgaaDoor
open Go.RowKit Go.ChangeShapes Go.WideShapes Go.ChangeAt Go.Deep
namespace Addr05
/-- May a prefix be? -/
def rightP (a : Adr) (i : Int) : Bool := decide (0 ≤ i) && a.rightP i.toNat
theorem right_no1 (a : Adr) (i : Int) (h : rightB a.v6 a.hi a.lo = false) : rightP a i = false := by
  unfold rightP Adr.rightP
  rw [Bool.and_eq_false_iff]
  right
  rw [decide_eq_false_iff_not]
  rintro ⟨h1, -⟩
  rw [(rightB_iff a).2 h1] at h
  cases h
theorem right_no2 (a : Adr) (i : Int) (h : i < 0) : rightP a i = false := by
  unfold rightP
  rw [decide_eq_false (by omega)]
  rfl
theorem right_no3 (a : Adr) (i : Int) (h0 : 0 ≤ i) (h : (a.w : Int) < i) : rightP a i = false := by
  unfold rightP Adr.rightP
  rw [Bool.and_eq_false_iff]
  right
  rw [decide_eq_false_iff_not]
  rintro ⟨-, h1, -⟩
  omega
theorem right_is (a : Adr) (i : Int) (hb : rightB a.v6 a.hi a.lo = true) (h0 : 0 ≤ i) (h : i ≤ (a.w : Int)) : rightP a i = decide (a.mask (clampN a i) = a) := by
  have e : clampN a i = i.toNat := by unfold clampN; omega
  unfold rightP Adr.rightP
  rw [decide_eq_true h0, Bool.true_and, e, decide_eq_decide]
  exact ⟨fun h => h.2.2, fun h' => ⟨(rightB_iff a).1 hb, by omega, h'⟩⟩
def pArr (a : Adr) (i : Int) : Array Value := #[.bool a.v6, .int .u64 (a.hi : Int), .int .u64 (a.lo : Int), .int .i64 i]
set_option maxRecDepth 20000 in
set_option maxHeartbeats 8000000 in
theorem pRight_any (a : Adr) (ho : a.ok) (i : Int) (w : World) :
    Calls Tryd.prog 29 #[.agg (pArr a i)] w fun e w' => e = .returned (.bool (rightP a i)) ∧ Below w.heap.size w w' := by
  have hn1 := right_no1 a i
  have hn2 := right_no2 a i
  have hn3 := right_no3 a i
  have his := right_is a i
  have hMask := Mask_any a ho i
  have hmv := a.mask_v6 (clampN a i)
  have hw128 := a.w_le
  have hR := fun w => Right_any a.v6 a.hi a.lo w
  have hBits : ∀ w : World, Calls Tryd.prog 47 #[.agg #[.bool a.v6, .int .u64 (a.hi : Int), .int .u64 (a.lo : Int)]] w fun e w' => e = .returned (.int .i64 (a.w : Int)) ∧ Below w.heap.size w w' := by
    intro w
    have h := Bits_any a.v6 (a.hi : Int) (a.lo : Int) w
    have e : (if a.v6 = true then (128 : Int) else 32) = (a.w : Int) := by unfold Adr.w; split <;> rfl
    rwa [e] at h
  obtain ⟨W, hW⟩ : ∃ W, a.w = W := ⟨_, rfl⟩
  rw [hW] at hn3 his hBits hw128
  obtain ⟨⟨mv, mh, ml⟩, hM⟩ : ∃ M, a.mask (clampN a i) = M := ⟨_, rfl⟩
  rw [hM] at hMask his hmv
  obtain ⟨RP, hRP⟩ : ∃ x, rightP a i = x := ⟨_, rfl⟩
  rw [hRP] at hn1 hn2 hn3 his ⊢
  unfold pArr
  obtain ⟨v, hi, lo⟩ := a
  clear hW hM hRP ho
  dsimp only at hn1 hn2 hn3 his hMask hmv hR hBits ⊢
  subst hmv
  unfold Adr.arr at hMask
  dsimp only at hMask
  obtain ⟨w1, hw1⟩ : ∃ w1, w.alloc (.cells #[.bool mv, .int .u64 (hi : Int), .int .u64 (lo : Int), .int .i64 i] 80) = w1 := ⟨_, rfl⟩
  have hB : Below w.heap.size w w1 := hw1 ▸ (Below.refl _ _).alloc (Nat.le_refl _) _
  have hg : w1.heap[w.heap.size]? = some (.cells #[.bool mv, .int .u64 (hi : Int), .int .u64 (lo : Int), .int .i64 i] 80 (0, 0)) := hw1 ▸ blk_new _ _ _
  have hzw : w.heap.size < w1.heap.size := by rw [← hw1]; simp
  have hcl := fun l : Later w1 => blk_cell (blk_below l.hb hzw hg)
  obtain ⟨RB, hRB⟩ : ∃ x, rightB mv hi lo = x := ⟨_, rfl⟩
  rw [hRB] at hn1 his hR
  have q1 := fun l : Later w1 => hR l.w
  have q2 := fun l : Later w1 => hBits l.w
  have q3 := fun l : Later w1 => hMask l.w
  clear hRB hR hBits hMask
  replace hB := hide hB
  replace hg := hide hg
  replace q1 := hide q1
  replace q2 := hide q2
  replace q3 := hide q3
  cases RB
  · obtain rfl : RP = false := hn1 rfl
    clear hn1 hn2 hn3 his
    go_enter Tryd.func29, Tryd.ntmps29
    go_upto_region 1 with fail
    clear hw1
    refine wp_region_L (by as_aux_lemma => kernel_rfl) ?_
    refine wpE_seg 0 27 (fuel := 0) (by as_aux_lemma => kernel_rfl) (fun d _ _ _ _ h => by cases d <;> exact h) (by as_aux_lemma => kernel_rfl) (by as_aux_lemma => kernel_rfl) ?_
    simp only [List.drop_zero, List.take_succ_cons, List.take_zero]
    iterate 2 (refine wpQE_step (fun K hK => ?_); go_simp; refine hK _ ?_; clear hK K)
    (refine wpQE_step (fun K hK => ?_); go_simp; apply Exists.intro; refine ⟨fun l => ?_, hK _ ?_⟩; (go_at_call 28; refine (q1.out l).mono ?_; rintro e w' ⟨rfl, hb⟩; exact ⟨rfl, hb⟩); clear hK K)
    refine wpQE_val_skip (.bool false) 3 rfl (fun l => rfl) (by as_aux_lemma => kernel_rfl) ?_
    dsimp only [putU, List.take_succ_cons, List.take_zero, List.drop_succ_cons, List.drop_zero, Act.put]
    iterate 1 (refine wpQE_step (fun K hK => ?_); go_simp; refine hK _ ?_; clear hK K)
    refine wpQE_val_skip (.bool false) 6 rfl (fun l => rfl) (by as_aux_lemma => kernel_rfl) ?_
    dsimp only [putU, List.take_succ_cons, List.take_zero, List.drop_succ_cons, List.drop_zero, Act.put]
    iterate 1 (refine wpQE_step (fun K hK => ?_); go_simp; refine hK _ ?_; clear hK K)
    refine wpQE_val_skip (.bool false) 8 rfl (fun l => rfl) (by as_aux_lemma => kernel_rfl) ?_
    dsimp only [putU, List.take_succ_cons, List.take_zero, List.drop_succ_cons, List.drop_zero, Act.put]
    iterate 2 (refine wpQE_step (fun K hK => ?_); go_simp; refine hK _ ?_; clear hK K)
    refine wpQE_nil ?_
    refine wpE_done (by as_aux_lemma => kernel_rfl) (fun w2 hb2 => ?_) 0
    clear hcl
    have hB2 := hB.out.trans (hb2.mono hB.out.size)
    clear hb2
    replace hB2 := hide hB2
    go_wp2_with fail
    go_ret
    exact ⟨rfl, hB2.out⟩
  by_cases h0 : i < 0
  · obtain rfl : RP = false := hn2 h0
    have t1 : decide (0 ≤ i) = false := by rw [decide_eq_false_iff_not]; omega
    have t2 : ¬ 0 ≤ i := by omega
    clear hn1 hn2 hn3 his
    replace h0 := hide h0
    go_enter Tryd.func29, Tryd.ntmps29
    go_upto_region 1 with fail
    clear hw1
    refine wp_region_L (by as_aux_lemma => kernel_rfl) ?_
    refine wpE_seg 0 27 (fuel := 0) (by as_aux_lemma => kernel_rfl) (fun d _ _ _ _ h => by cases d <;> exact h) (by as_aux_lemma => kernel_rfl) (by as_aux_lemma => kernel_rfl) ?_
    simp only [List.drop_zero, List.take_succ_cons, List.take_zero]
    iterate 2 (refine wpQE_step (fun K hK => ?_); go_simp; refine hK _ ?_; clear hK K)
    (refine wpQE_step (fun K hK => ?_); go_simp; apply Exists.intro; refine ⟨fun l => ?_, hK _ ?_⟩; (go_at_call 28; refine (q1.out l).mono ?_; rintro e w' ⟨rfl, hb⟩; exact ⟨rfl, hb⟩); clear hK K)
    iterate 4 (refine wpQE_step (fun K hK => ?_); go_simp; refine hK _ ?_; clear hK K)
    iterate 1 (refine wpQE_step (fun K hK => ?_); go_simp; refine hK _ ?_; clear hK K)
    refine wpQE_val_skip (.bool false) 6 rfl (fun l => rfl) (by as_aux_lemma => kernel_rfl) ?_
    dsimp only [putU, List.take_succ_cons, List.take_zero, List.drop_succ_cons, List.drop_zero, Act.put]
    iterate 1 (refine wpQE_step (fun K hK => ?_); go_simp; refine hK _ ?_; clear hK K)
    refine wpQE_val_skip (.bool false) 8 rfl (fun l => rfl) (by as_aux_lemma => kernel_rfl) ?_
    dsimp only [putU, List.take_succ_cons, List.take_zero, List.drop_succ_cons, List.drop_zero, Act.put]
    iterate 2 (refine wpQE_step (fun K hK => ?_); go_simp; refine hK _ ?_; clear hK K)
    refine wpQE_nil ?_
    refine wpE_done (by as_aux_lemma => kernel_rfl) (fun w2 hb2 => ?_) 0
    clear hcl
    have hB2 := hB.out.trans (hb2.mono hB.out.size)
    clear hb2
    replace hB2 := hide hB2
    go_wp2_with fail
    go_ret
    exact ⟨rfl, hB2.out⟩
  have h0' : 0 ≤ i := by omega
  have t1 : decide (0 ≤ i) = true := decide_eq_true h0'
  by_cases hw : (W : Int) < i
  · obtain rfl : RP = false := hn3 h0' hw
    have t2 : decide (i ≤ (W : Int)) = false := by rw [decide_eq_false_iff_not]; omega
    have t3 : ¬ i ≤ (W : Int) := by omega
    clear hn1 hn2 hn3 his
    replace h0 := hide h0
    replace hw := hide hw
    go_enter Tryd.func29, Tryd.ntmps29
    go_upto_region 1 with fail
    clear hw1
    refine wp_region_L (by as_aux_lemma => kernel_rfl) ?_
    refine wpE_seg 0 27 (fuel := 0) (by as_aux_lemma => kernel_rfl) (fun d _ _ _ _ h => by cases d <;> exact h) (by as_aux_lemma => kernel_rfl) (by as_aux_lemma => kernel_rfl) ?_
    simp only [List.drop_zero, List.take_succ_cons, List.take_zero]
    iterate 2 (refine wpQE_step (fun K hK => ?_); go_simp; refine hK _ ?_; clear hK K)
    (refine wpQE_step (fun K hK => ?_); go_simp; apply Exists.intro; refine ⟨fun l => ?_, hK _ ?_⟩; (go_at_call 28; refine (q1.out l).mono ?_; rintro e w' ⟨rfl, hb⟩; exact ⟨rfl, hb⟩); clear hK K)
    iterate 4 (refine wpQE_step (fun K hK => ?_); go_simp; refine hK _ ?_; clear hK K)
    iterate 1 (refine wpQE_step (fun K hK => ?_); go_simp; refine hK _ ?_; clear hK K)
    iterate 5 (refine wpQE_step (fun K hK => ?_); go_simp; refine hK _ ?_; clear hK K)
    (refine wpQE_step (fun K hK => ?_); go_simp; apply Exists.intro; refine ⟨fun l => ?_, hK _ ?_⟩; (go_at_call 47; refine (q2.out l).mono ?_; rintro e w' ⟨rfl, hb⟩; exact ⟨rfl, hb⟩); clear hK K)
    iterate 2 (refine wpQE_step (fun K hK => ?_); go_simp; refine hK _ ?_; clear hK K)
    refine wpQE_val_skip (.bool false) 8 rfl (fun l => rfl) (by as_aux_lemma => kernel_rfl) ?_
    dsimp only [putU, List.take_succ_cons, List.take_zero, List.drop_succ_cons, List.drop_zero, Act.put]
    iterate 2 (refine wpQE_step (fun K hK => ?_); go_simp; refine hK _ ?_; clear hK K)
    refine wpQE_nil ?_
    refine wpE_done (by as_aux_lemma => kernel_rfl) (fun w2 hb2 => ?_) 0
    clear hcl
    have hB2 := hB.out.trans (hb2.mono hB.out.size)
    clear hb2
    replace hB2 := hide hB2
    go_wp2_with fail
    go_ret
    exact ⟨rfl, hB2.out⟩
  have hw' : i ≤ (W : Int) := by omega
  have t2 : decide (i ≤ (W : Int)) = true := decide_eq_true hw'
  have hfin := his rfl h0' hw'
  clear hn1 hn2 hn3 his
  by_cases e1 : mh = hi
  · subst e1
    by_cases e2 : ml = lo
    · subst e2
      rw [decide_eq_true rfl] at hfin
      subst hfin
      replace h0 := hide h0
      replace hw := hide hw
      go_enter Tryd.func29, Tryd.ntmps29
      go_upto_region 1 with fail
      clear hw1
      refine wp_region_L (by as_aux_lemma => kernel_rfl) ?_
      refine wpE_seg 0 27 (fuel := 0) (by as_aux_lemma => kernel_rfl) (fun d _ _ _ _ h => by cases d <;> exact h) (by as_aux_lemma => kernel_rfl) (by as_aux_lemma => kernel_rfl) ?_
      simp only [List.drop_zero, List.take_succ_cons, List.take_zero]
      iterate 2 (refine wpQE_step (fun K hK => ?_); go_simp; refine hK _ ?_; clear hK K)
      (refine wpQE_step (fun K hK => ?_); go_simp; apply Exists.intro; refine ⟨fun l => ?_, hK _ ?_⟩; (go_at_call 28; refine (q1.out l).mono ?_; rintro e w' ⟨rfl, hb⟩; exact ⟨rfl, hb⟩); clear hK K)
      iterate 4 (refine wpQE_step (fun K hK => ?_); go_simp; refine hK _ ?_; clear hK K)
      iterate 1 (refine wpQE_step (fun K hK => ?_); go_simp; refine hK _ ?_; clear hK K)
      iterate 5 (refine wpQE_step (fun K hK => ?_); go_simp; refine hK _ ?_; clear hK K)
      (refine wpQE_step (fun K hK => ?_); go_simp; apply Exists.intro; refine ⟨fun l => ?_, hK _ ?_⟩; (go_at_call 47; refine (q2.out l).mono ?_; rintro e w' ⟨rfl, hb⟩; exact ⟨rfl, hb⟩); clear hK K)
      iterate 2 (refine wpQE_step (fun K hK => ?_); go_simp; refine hK _ ?_; clear hK K)
      iterate 5 (refine wpQE_step (fun K hK => ?_); go_simp; refine hK _ ?_; clear hK K)
      (refine wpQE_step (fun K hK => ?_); go_simp; apply Exists.intro; refine ⟨fun l => ?_, hK _ ?_⟩; (go_at_call 48; refine (q3.out l).mono ?_; rintro e w' ⟨rfl, hb⟩; exact ⟨rfl, hb⟩); clear hK K)
      iterate 5 (refine wpQE_step (fun K hK => ?_); go_simp; refine hK _ ?_; clear hK K)
      refine wpQE_nil ?_
      refine wpE_done (by as_aux_lemma => kernel_rfl) (fun w2 hb2 => ?_) 0
      clear hcl
      have hB2 := hB.out.trans (hb2.mono hB.out.size)
      clear hb2
      replace hB2 := hide hB2
      go_wp2_with fail
      go_ret
      exact ⟨rfl, hB2.out⟩
    · have n2 : ¬ (ml : Int) = (lo : Int) := by omega
      rw [decide_eq_false (fun h => e2 (Adr.mk.inj h).2.2)] at hfin
      subst hfin
      replace h0 := hide h0
      replace hw := hide hw
      go_enter Tryd.func29, Tryd.ntmps29
      go_upto_region 1 with fail
      clear hw1
      refine wp_region_L (by as_aux_lemma => kernel_rfl) ?_
      refine wpE_seg 0 27 (fuel := 0) (by as_aux_lemma => kernel_rfl) (fun d _ _ _ _ h => by cases d <;> exact h) (by as_aux_lemma => kernel_rfl) (by as_aux_lemma => kernel_rfl) ?_
      simp only [List.drop_zero, List.take_succ_cons, List.take_zero]
      iterate 2 (refine wpQE_step (fun K hK => ?_); go_simp; refine hK _ ?_; clear hK K)
      (refine wpQE_step (fun K hK => ?_); go_simp; apply Exists.intro; refine ⟨fun l => ?_, hK _ ?_⟩; (go_at_call 28; refine (q1.out l).mono ?_; rintro e w' ⟨rfl, hb⟩; exact ⟨rfl, hb⟩); clear hK K)
      iterate 4 (refine wpQE_step (fun K hK => ?_); go_simp; refine hK _ ?_; clear hK K)
      iterate 1 (refine wpQE_step (fun K hK => ?_); go_simp; refine hK _ ?_; clear hK K)
      iterate 5 (refine wpQE_step (fun K hK => ?_); go_simp; refine hK _ ?_; clear hK K)
      (refine wpQE_step (fun K hK => ?_); go_simp; apply Exists.intro; refine ⟨fun l => ?_, hK _ ?_⟩; (go_at_call 47; refine (q2.out l).mono ?_; rintro e w' ⟨rfl, hb⟩; exact ⟨rfl, hb⟩); clear hK K)
      iterate 2 (refine wpQE_step (fun K hK => ?_); go_simp; refine hK _ ?_; clear hK K)
      iterate 5 (refine wpQE_step (fun K hK => ?_); go_simp; refine hK _ ?_; clear hK K)
      (refine wpQE_step (fun K hK => ?_); go_simp; apply Exists.intro; refine ⟨fun l => ?_, hK _ ?_⟩; (go_at_call 48; refine (q3.out l).mono ?_; rintro e w' ⟨rfl, hb⟩; exact ⟨rfl, hb⟩); clear hK K)
      iterate 5 (refine wpQE_step (fun K hK => ?_); go_simp; refine hK _ ?_; clear hK K)
      refine wpQE_nil ?_
      refine wpE_done (by as_aux_lemma => kernel_rfl) (fun w2 hb2 => ?_) 0
      clear hcl
      have hB2 := hB.out.trans (hb2.mono hB.out.size)
      clear hb2
      replace hB2 := hide hB2
      go_wp2_with fail
      go_ret
      exact ⟨rfl, hB2.out⟩
  · have n1 : ¬ (mh : Int) = (hi : Int) := by omega
    rw [decide_eq_false (fun h => e1 (Adr.mk.inj h).2.1)] at hfin
    subst hfin
    replace h0 := hide h0
    replace hw := hide hw
    go_enter Tryd.func29, Tryd.ntmps29
    go_upto_region 1 with fail
    clear hw1
    refine wp_region_L (by as_aux_lemma => kernel_rfl) ?_
    refine wpE_seg 0 27 (fuel := 0) (by as_aux_lemma => kernel_rfl) (fun d _ _ _ _ h => by cases d <;> exact h) (by as_aux_lemma => kernel_rfl) (by as_aux_lemma => kernel_rfl) ?_
    simp only [List.drop_zero, List.take_succ_cons, List.take_zero]
    iterate 2 (refine wpQE_step (fun K hK => ?_); go_simp; refine hK _ ?_; clear hK K)
    (refine wpQE_step (fun K hK => ?_); go_simp; apply Exists.intro; refine ⟨fun l => ?_, hK _ ?_⟩; (go_at_call 28; refine (q1.out l).mono ?_; rintro e w' ⟨rfl, hb⟩; exact ⟨rfl, hb⟩); clear hK K)
    iterate 4 (refine wpQE_step (fun K hK => ?_); go_simp; refine hK _ ?_; clear hK K)
    iterate 1 (refine wpQE_step (fun K hK => ?_); go_simp; refine hK _ ?_; clear hK K)
    iterate 5 (refine wpQE_step (fun K hK => ?_); go_simp; refine hK _ ?_; clear hK K)
    (refine wpQE_step (fun K hK => ?_); go_simp; apply Exists.intro; refine ⟨fun l => ?_, hK _ ?_⟩; (go_at_call 47; refine (q2.out l).mono ?_; rintro e w' ⟨rfl, hb⟩; exact ⟨rfl, hb⟩); clear hK K)
    iterate 2 (refine wpQE_step (fun K hK => ?_); go_simp; refine hK _ ?_; clear hK K)
    iterate 5 (refine wpQE_step (fun K hK => ?_); go_simp; refine hK _ ?_; clear hK K)
    (refine wpQE_step (fun K hK => ?_); go_simp; apply Exists.intro; refine ⟨fun l => ?_, hK _ ?_⟩; (go_at_call 48; refine (q3.out l).mono ?_; rintro e w' ⟨rfl, hb⟩; exact ⟨rfl, hb⟩); clear hK K)
    iterate 5 (refine wpQE_step (fun K hK => ?_); go_simp; refine hK _ ?_; clear hK K)
    refine wpQE_nil ?_
    refine wpE_done (by as_aux_lemma => kernel_rfl) (fun w2 hb2 => ?_) 0
    clear hcl
    have hB2 := hB.out.trans (hb2.mono hB.out.size)
    clear hb2
    replace hB2 := hide hB2
    go_wp2_with fail
    go_ret
    exact ⟨rfl, hB2.out⟩
end Addr05
end Go.Proofs.YtcpokkkdmenmgaaDoor
/- pfx: Text: a prefix as a text. Conditions: numbers of 64 bits. -/
namespace Go.Proofs.YtcpokkkdmenmgaaDoor
open Go.RowKit Go.ChangeShapes Go.WideShapes Go.ChangeAt Go.Deep
namespace Addr05
set_option maxRecDepth 20000 in
set_option maxHeartbeats 4000000 in
theorem pText_any (a : Adr) (ho : a.ok) (i : Int) (w : World) :
    Calls Tryd.prog 32 #[.agg (pArr a i)] w fun e w' => e = .returned (.string (str (textP a (min (max i 0) 128).toNat))) ∧ Below w.heap.size w w' := by
  have hT := fun w => text_any a.v6 a.hi a.lo ho.1 ho.2 w
  have hlen := textA_len a
  have hN := pnum_any i
  have hnl := dig10_len (min (max i 0) 128).toNat (by omega)
  unfold textP
  unfold textA at hlen ⊢
  obtain ⟨T, hTe⟩ : ∃ x, textL a.v6 a.hi a.lo = x := ⟨_, rfl⟩
  obtain ⟨D, hDe⟩ : ∃ x, digL 10 (min (max i 0) 128).toNat = x := ⟨_, rfl⟩
  rw [hTe] at hT hlen ⊢
  rw [hDe] at hN hnl ⊢
  clear hTe hDe
  obtain ⟨T1, h1⟩ : ∃ x, T ++ [47] = x := ⟨_, rfl⟩
  obtain ⟨T2, h2⟩ : ∃ x, T1 ++ D = x := ⟨_, rfl⟩
  have hfin : T ++ 47 :: D = T2 := by rw [← h2, ← h1]; simp
  rw [hfin]
  have c1 : str T ++ ByteArray.mk #[47] = str T1 := by rw [← h1]; exact str_append T [47]
  have c2 : str T1 ++ str D = str T2 := by rw [← h2]; exact str_append _ _
  have l1 : (str T1).size = T.length + 1 := by rw [size_str, ← h1]; simp
  have z1 : ¬ 9223372036854775807 < (str T).size + 1 := by rw [size_str]; omega
  have z2 : ¬ 9223372036854775807 < (str T1).size + (str D).size := by rw [l1, size_str D]; omega
  unfold pArr
  obtain ⟨v, hi, lo⟩ := a
  dsimp only at hT ⊢
  obtain ⟨w1, hw1⟩ : ∃ w1, w.alloc (.cells #[.bool v, .int .u64 (hi : Int), .int .u64 (lo : Int), .int .i64 i] 80) = w1 := ⟨_, rfl⟩
  have hB : Below w.heap.size w w1 := hw1 ▸ (Below.refl _ _).alloc (Nat.le_refl _) _
  have hg : w1.heap[w.heap.size]? = some (.cells #[.bool v, .int .u64 (hi : Int), .int .u64 (lo : Int), .int .i64 i] 80 (0, 0)) := hw1 ▸ blk_new _ _ _
  have hzw : w.heap.size < w1.heap.size := by rw [← hw1]; simp
  have hcl := fun l : Later w1 => blk_cell (blk_below l.hb hzw hg)
  have q1 := fun l : Later w1 => hT l.w
  have q2 := fun l : Later w1 => hN l.w
  clear hT hN l1 h1 h2 hfin ho
  replace hB := hide hB
  replace hg := hide hg
  replace q1 := hide q1
  replace q2 := hide q2
  go_enter Tryd.func32, Tryd.ntmps32
  go_upto_region 1 with fail
  clear hw1
  refine wp_region_L (by as_aux_lemma => kernel_rfl) ?_
  refine wpE_seg 0 9 (fuel := 0) (by as_aux_lemma => kernel_rfl) (fun d _ _ _ _ h => by cases d <;> exact h) (by as_aux_lemma => kernel_rfl) (by as_aux_lemma => kernel_rfl) ?_
  simp only [List.drop_zero, List.take_succ_cons, List.take_zero]
  iterate 2 (refine wpQE_step (fun K hK => ?_); go_simp; refine hK _ ?_; clear hK K)
  (refine wpQE_step (fun K hK => ?_); go_simp; apply Exists.intro; refine ⟨fun l => ?_, hK _ ?_⟩; (go_at_call 31; refine (q1.out l).mono ?_; rintro e w' ⟨rfl, hb⟩; exact ⟨rfl, hb⟩); clear hK K)
  iterate 3 (refine wpQE_step (fun K hK => ?_); go_simp; refine hK _ ?_; clear hK K)
  (refine wpQE_step (fun K hK => ?_); go_simp; apply Exists.intro; refine ⟨fun l => ?_, hK _ ?_⟩; (go_at_call 53; refine (q2.out l).mono ?_; rintro e w' ⟨rfl, hb⟩; exact ⟨rfl, hb⟩); clear hK K)
  iterate 2 (refine wpQE_step (fun K hK => ?_); go_simp; refine hK _ ?_; clear hK K)
  refine wpQE_nil ?_
  refine wpE_done (by as_aux_lemma => kernel_rfl) (fun w2 hb2 => ?_) 0
  have hB2 := hB.out.trans (hb2.mono hB.out.size)
  clear hb2 hcl
  replace hB2 := hide hB2
  go_wp2_with fail
  go_ret
  exact ⟨rfl, hB2.out⟩
end Addr05
end Go.Proofs.YtcpokkkdmenmgaaDoor
/- Two addresses that are held against each other. No condition. -/
namespace Go.Proofs.YtcpokkkdmenmgaaDoor
open Go.RowKit Go.ChangeShapes Go.WideShapes Go.ChangeAt Go.Deep
namespace Addr05
abbrev arrA (a : Adr) : Array Value := #[.bool a.v6, .int .u64 (a.hi : Int), .int .u64 (a.lo : Int)]
theorem adr_ext {a b : Adr} (h1 : a.v6 = b.v6) (h2 : a.hi = b.hi) (h3 : a.lo = b.lo) : a = b := by
  obtain ⟨x, y, z⟩ := a
  obtain ⟨x', y', z'⟩ := b
  dsimp only at h1 h2 h3
  subst h1 h2 h3
  rfl
section
variable {w : World} {ops : Array Oper} {rest : List Oper} {o : Oper} {a : Act} {Q : Exit → Act → World → Prop}
theorem wpl_eqA (hg : o.guard = none) (x y : Operand) (ho : o.op = .binOp .eql 27 x y 27) (s u : Adr) (hx : a.eval x = .agg (arrA s)) (hy : a.eval y = .agg (arrA u))
    (hK : wpList Tryd.prog ops Q rest (a.put o.dst (.bool (decide (s = u)))) w) : wpList Tryd.prog ops Q (o :: rest) a w := by
  refine wpList_plain hg fun K' hK' => ?_
  have hk := hK' _ _ hK
  clear hK hK'
  obtain ⟨v6, hi, lo⟩ := s
  obtain ⟨v6', hi', lo'⟩ := u
  unfold Oper.wp
  simp only [execOp, ho, hx, hy, arrA]
  go_simp
  by_cases h1 : v6 = v6'
  · by_cases h2 : (hi : Int) = (hi' : Int)
    · by_cases h3 : (lo : Int) = (lo' : Int)
      · have e : (⟨v6, hi, lo⟩ : Adr) = ⟨v6', hi', lo'⟩ := adr_ext h1 (by dsimp only; omega) (by dsimp only; omega)
        rw [decide_eq_true e] at hk
        rw [if_pos h1, if_pos h2, if_pos h3]
        exact hk
      · have e : ¬ (⟨v6, hi, lo⟩ : Adr) = ⟨v6', hi', lo'⟩ := fun e => h3 (by cases e; rfl)
        rw [decide_eq_false e] at hk
        rw [if_pos h1, if_pos h2, if_neg h3]
        exact hk
    · have e : ¬ (⟨v6, hi, lo⟩ : Adr) = ⟨v6', hi', lo'⟩ := fun e => h2 (by cases e; rfl)
      rw [decide_eq_false e] at hk
      rw [if_pos h1, if_neg h2]
      exact hk
  · have e : ¬ (⟨v6, hi, lo⟩ : Adr) = ⟨v6', hi', lo'⟩ := fun e => h1 (by cases e; rfl)
    rw [decide_eq_false e] at hk
    rw [if_neg h1]
    exact hk
theorem wpl_neA (hg : o.guard = none) (x y : Operand) (ho : o.op = .binOp .neq 27 x y 27) (s u : Adr) (hx : a.eval x = .agg (arrA s)) (hy : a.eval y = .agg (arrA u))
    (hK : wpList Tryd.prog ops Q rest (a.put o.dst (.bool (!decide (s = u)))) w) : wpList Tryd.prog ops Q (o :: rest) a w := by
  refine wpList_plain hg fun K' hK' => ?_
  have hk := hK' _ _ hK
  clear hK hK'
  obtain ⟨v6, hi, lo⟩ := s
  obtain ⟨v6', hi', lo'⟩ := u
  unfold Oper.wp
  simp only [execOp, ho, hx, hy, arrA]
  go_simp
  by_cases h1 : v6 = v6'
  · by_cases h2 : (hi : Int) = (hi' : Int)
    · by_cases h3 : (lo : Int) = (lo' : Int)
      · have e : (⟨v6, hi, lo⟩ : Adr) = ⟨v6', hi', lo'⟩ := adr_ext h1 (by dsimp only; omega) (by dsimp only; omega)
        rw [decide_eq_true e] at hk
        rw [if_pos h1, if_pos h2, if_pos h3]
        exact hk
      · have e : ¬ (⟨v6, hi, lo⟩ : Adr) = ⟨v6', hi', lo'⟩ := fun e => h3 (by cases e; rfl)
        rw [decide_eq_false e] at hk
        rw [if_pos h1, if_pos h2, if_neg h3]
        exact hk
    · have e : ¬ (⟨v6, hi, lo⟩ : Adr) = ⟨v6', hi', lo'⟩ := fun e => h2 (by cases e; rfl)
      rw [decide_eq_false e] at hk
      rw [if_pos h1, if_neg h2]
      exact hk
  · have e : ¬ (⟨v6, hi, lo⟩ : Adr) = ⟨v6', hi', lo'⟩ := fun e => h1 (by cases e; rfl)
    rw [decide_eq_false e] at hk
    rw [if_neg h1]
    exact hk
end
end Addr05
end Go.Proofs.YtcpokkkdmenmgaaDoor
/- An array of two addresses that is held against itself. No condition. -/
namespace Go.Proofs.YtcpokkkdmenmgaaDoor
open Go.RowKit Go.ChangeShapes Go.WideShapes Go.ChangeAt Go.Deep
namespace Conf18
set_option maxRecDepth 20000 in
theorem eq_adr (d : Nat) (a : Bool) (b c : Int) (w : World) : (Op.equalIn (d + 1 + 1) 27 (.agg #[.bool a, .int .u64 b, .int .u64 c]) (.agg #[.bool a, .int .u64 b, .int .u64 c])).run Tryd.prog w = .ok true w := by
  go_simp
set_option maxRecDepth 20000 in
theorem eq_selfs (a : Bool) (b c : Int) (a' : Bool) (b' c' : Int) (w : World) : (Op.equalIn 10000 28 (.agg #[.bool a, .int .u64 b, .int .u64 c, .bool a', .int .u64 b', .int .u64 c']) (.agg #[.bool a, .int .u64 b, .int .u64 c, .bool a', .int .u64 b', .int .u64 c'])).run Tryd.prog w = .ok true w := by
  have e1 := eq_adr 9997 a b c w
  have e2 := eq_adr 9997 a' b' c' w
  rw [show (10000 : Nat) = 9999 + 1 from rfl, Op.equalIn]
  simp only [Sem.run_bind, run_underlying Tryd.underlying28, Result.andThen_ok]
  have hsz : (sizeOf 27).run Tryd.prog w = .ok 3 w := by kernel_rfl
  have p1 : (part 27 #[.bool a, .int .u64 b, .int .u64 c, .bool a', .int .u64 b', .int .u64 c'] 0).run Tryd.prog w = .ok (.agg #[.bool a, .int .u64 b, .int .u64 c]) w := by kernel_rfl
  have p2 : (part 27 #[.bool a, .int .u64 b, .int .u64 c, .bool a', .int .u64 b', .int .u64 c'] 3).run Tryd.prog w = .ok (.agg #[.bool a', .int .u64 b', .int .u64 c']) w := by kernel_rfl
  simp only [hsz, Result.andThen_ok, Std.Legacy.Range.forIn_eq_forIn_range', Std.Legacy.Range.size, List.range'_succ, List.range'_zero, Nat.sub_zero, Nat.add_sub_cancel, Nat.div_one]
  simp [List.forIn_cons, List.forIn_nil, Sem.run_bind, p1, p2, e1, e2]
end Conf18
end Go.Proofs.YtcpokkkdmenmgaaDoor
/- rate: Right, New and none. Plain contracts; conditions: none. -/
namespace Go.Proofs.YtcpokkkdmenmgaaDoor
open Go.RowKit Go.ChangeShapes Go.WideShapes Go.ChangeAt Go.Deep
namespace Addr05
/-- Is a rule of a bucket right? -/
def rightR (e m : Int) : Bool := decide (0 ≤ e ∧ e ≤ 1099511627776 ∧ 1 ≤ m ∧ m ≤ 1099511627776)
theorem rightR_iff (e m : Int) : rightR e m = true ↔ 0 ≤ e ∧ e ≤ 1099511627776 ∧ 1 ≤ m ∧ m ≤ 1099511627776 := by
  unfold rightR
  exact decide_eq_true_iff
end Addr05
end Go.Proofs.YtcpokkkdmenmgaaDoor
/- pfx: the law's bits, right. Conditions: numbers of 64 bits. -/
namespace Go.Proofs.YtcpokkkdmenmgaaDoor
open Go.RowKit Go.ChangeShapes Go.WideShapes Go.ChangeAt Go.Deep
namespace Addr05
def Adr.bits (a : Adr) : List Int := (List.range a.w).map fun i => (a.bit i : Int)
theorem Adr.bits_length (a : Adr) : a.bits.length = a.w := by unfold Adr.bits; simp
theorem Adr.bits_get (a : Adr) (i : Nat) (h : i < a.w) : a.bits[i]? = some (a.bit i : Int) := by
  unfold Adr.bits
  rw [List.getElem?_map, List.getElem?_range h]
  rfl
end Addr05
end Go.Proofs.YtcpokkkdmenmgaaDoor
/- pfx: Parse: the prefix that a text is. Condition: the cell of bytealg.MaxLen, a text of at most 80 bytes. -/
namespace Go.Proofs.YtcpokkkdmenmgaaDoor
open Go.RowKit Go.ChangeShapes Go.WideShapes Go.ChangeAt Go.Deep
namespace Addr05
def pZ : Array Value := #[.bool false, .int .u64 0, .int .u64 0, .int .i64 0]
def pArrO : Option (Adr × Nat) → Array Value
  | none => #[.bool false, .int .u64 0, .int .u64 0, .int .i64 0]
  | some p => #[.bool p.1.v6, .int .u64 (p.1.hi : Int), .int .u64 (p.1.lo : Int), .int .i64 (p.2 : Int)]
theorem p_one (v6 : Bool) (hi lo i : Int) : (#[.bool v6, .int .u64 hi, .int .u64 lo, .int .i64 i] : Array Value).all (·.oneCell') = true := all_oneCell_toArray (by
  intro v hv
  simp only [List.mem_cons, List.not_mem_nil, or_false] at hv
  rcases hv with rfl | rfl | rfl | rfl <;> rfl)
theorem alloc_pfx (o : Oper) (h : o.op = .alloc 80) (ρ : Operand → Value) (w : World) : (execOp ρ o).run Tryd.prog w = .ok (.value (.pointer (some ⟨w.heap.size, 0, none⟩))) (w.alloc (.cells #[.bool false, .int .u64 0, .int .u64 0, .int .i64 0] 80)) := by
  obtain ⟨d, op, t, ps, af, g⟩ := o
  dsimp only at h
  subst h
  kernel_rfl
/-- A text's bytes, in a new row. -/
theorem bytes_any (s : List UInt8) (w : World) : ∃ w' c, (convert 9 116 (.string (str s))).run Tryd.prog w = .ok (.slice (some ⟨w.heap.size, 0, none⟩) s.length c) w' ∧ IsB w' w'.heap.size (some ⟨w.heap.size, 0, none⟩) s.length s ∧ Below w.heap.size w w' := by
  have h := Lib.run_convert_string_bytes (P := Tryd.prog) w 9 116 5 (str s) Tryd.underlying9 Tryd.underlying116 Tryd.underlying5
  rw [size_str] at h
  refine ⟨_, _, h, ⟨rfl, fun hn => ⟨_, 0, rfl, by rw [Lib.bytesWorld_size]; omega, fun j hj => ?_⟩⟩, ?_⟩
  · rw [Nat.zero_add, Lib.bytesWorld_cell w _ (str s) j (by rw [size_str]; exact hj), str_list]
    unfold u8v
    rw [List.getD_eq_getElem?_getD, List.getElem?_eq_getElem hj]
    rfl
  · exact ⟨rfl, rfl, rfl, by rw [Lib.bytesWorld_size]; omega, fun j hj => Lib.bytesWorld_at_old _ _ _ j hj⟩
/-- What is made of the parts of a text. -/
def pfxG (r : Option Adr) (c : Bool) (T : List UInt8) : Option (Adr × Nat) :=
  match r with
  | none => none
  | some a => if c = false ∨ T.length < 1 ∨ 3 < T.length then none else match tailF 0 T with
    | none => none
    | some n => if a.rightP n = true ∧ digL 10 n = T then some (a, n) else none
theorem pfxF_G (s : List UInt8) : pfxF s = pfxG (parseF (Lib.cut s [47]).1) (Lib.cut s [47]).2.2 (Lib.cut s [47]).2.1 := by
  unfold pfxF pfxG
  rfl
def goodG (a : Adr) (T : List UInt8) : Option Nat → Option (Adr × Nat)
  | none => none
  | some n => if a.rightP n = true ∧ digL 10 n = T then some (a, n) else none
theorem rightP_nat (a : Adr) (m : Nat) : rightP a (m : Int) = a.rightP m := by
  unfold rightP
  rw [decide_eq_true (by omega), Bool.true_and, Int.toNat_natCast]
theorem clamp128 (a : Adr) (m : Nat) (h : a.rightP m = true) : (min (max (m : Int) 0) 128).toNat = m := by
  have h1 := (rightP_w a m h).2.1
  have h2 := a.w_le
  omega
theorem pfxG_bad (r : Option Adr) (C : Bool) (T : List UInt8) (h : (!C || (errP r != 0) || decide ((T.length : Int) < 1) || decide ((3 : Int) < (T.length : Int))) = true) : pfxG r C T = none := by
  unfold pfxG
  cases r with
  | none => rfl
  | some a =>
    dsimp only
    rw [if_pos]
    simp only [Bool.or_eq_true, Bool.not_eq_true', bne_iff_ne, decide_eq_true_eq] at h
    rcases h with ((h | h) | h) | h
    · exact .inl h
    · exact absurd rfl h
    · exact .inr (.inl (by omega))
    · exact .inr (.inr (by omega))
theorem pfxG_good (r : Option Adr) (C : Bool) (T : List UInt8) (h : (!C || (errP r != 0) || decide ((T.length : Int) < 1) || decide ((3 : Int) < (T.length : Int))) = false) : ∃ a, r = some a ∧ pfxG r C T = goodG a T (tailF 0 T) ∧ 1 ≤ T.length ∧ T.length ≤ 3 := by
  simp only [Bool.or_eq_false_iff, Bool.not_eq_false', decide_eq_false_iff_not] at h
  obtain ⟨⟨⟨h1, h2⟩, h3⟩, h4⟩ := h
  cases r with
  | none => cases h2
  | some a =>
    refine ⟨a, rfl, ?_, by omega, by omega⟩
    unfold pfxG goodG
    dsimp only
    rw [if_neg (by
      rintro (h | h | h)
      · rw [h1] at h; cases h
      · omega
      · omega)]
set_option maxRecDepth 20000 in
set_option maxHeartbeats 8000000 in
theorem pParse_any (s : List UInt8) (hs : s.length ≤ 65536) (w : World) (hm : MaxAt w) :
    Calls Tryd.prog 84 #[.string (str s)] w fun e w' => e = .returned (.tuple #[.agg (pArrO (pfxF s)), .int .i64 (if (pfxF s).isSome then 0 else 18)]) ∧ Below w.heap.size w w' := by
  rw [pfxF_G]
  obtain ⟨w1, hw1⟩ : ∃ w1, w.alloc (.cells #[.bool false, .int .u64 0, .int .u64 0, .int .i64 0] 80) = w1 := ⟨_, rfl⟩
  have hB : Below w.heap.size w w1 := hw1 ▸ (Below.refl _ _).alloc (Nat.le_refl _) _
  have hg : w1.heap[w.heap.size]? = some (.cells #[.bool false, .int .u64 0, .int .u64 0, .int .i64 0] 80 (0, 0)) := hw1 ▸ blk_new _ _ _
  have hm1 := hm.below hB
  have hcut := cut_any [47] s hs w1 hm1
  have hcl := cut_len s [47]
  obtain ⟨H, hH⟩ : ∃ x, (Lib.cut s [47]).1 = x := ⟨_, rfl⟩
  obtain ⟨T, hT⟩ : ∃ x, (Lib.cut s [47]).2.1 = x := ⟨_, rfl⟩
  obtain ⟨C, hC⟩ : ∃ x, (Lib.cut s [47]).2.2 = x := ⟨_, rfl⟩
  rw [hH, hT, hC] at hcut ⊢
  rw [hH, hT] at hcl
  have hP := Parse_any H (by omega)
  have hTl : T.length ≤ 65536 := by omega
  have hps := fun a h => (parse_some H a h).2.1
  obtain ⟨PF, hPF⟩ : ∃ x, parseF H = x := ⟨_, rfl⟩
  rw [hPF] at hP hps ⊢
  obtain ⟨R, hR⟩ : ∃ x, pfxG PF C T = x := ⟨_, rfl⟩
  rw [hR]
  have hzT : (str T).size = T.length := size_str T
  clear hH hT hC hPF hcl hm
  obtain ⟨ar, har⟩ : ∃ a : Adr, adrP PF = a.arr := by
    cases PF with
    | none => exact ⟨⟨false, 0, 0⟩, rfl⟩
    | some a => exact ⟨a, rfl⟩
  obtain ⟨E, hE⟩ : ∃ x, errP PF = x := ⟨_, rfl⟩
  rw [har, hE] at hP
  replace hB := hide hB
  replace hg := hide hg
  replace hm1 := hide hm1
  replace hcut := hide hcut
  replace hP := hide hP
  replace hps := hide hps
  replace hR := hide hR
  replace har := hide har
  replace hE := hide hE
  go_enter Tryd.func84, Tryd.ntmps84
  go_wp2_with fail
  clear hw1
  refine hcut.out.mono ?_
  rintro e w2 ⟨rfl, hb2⟩
  replace hB := hide (hB.out.trans (hb2.mono hB.out.size))
  replace hg := hide (blk_on hb2 hg.out)
  replace hm1 := hide (hm1.out.below hb2)
  clear hb2
  clear hcut
  have hP2 := hP.out w2 hm1.out
  obtain ⟨av, ah, al⟩ := ar
  unfold Adr.arr at hP2
  clear hP
  replace hP2 := hide hP2
  go_upto_region 2 with fail
  apply wp_region_lit
  iterate 1 (refine wpList_plain rfl fun K hK => ?_; go_simp; refine hK _ _ ?_; clear hK K)
  refine wpList_plain rfl fun K hK => ?_
  go_simp
  refine (hP2.out).mono ?_
  rintro e w3 ⟨rfl, hb3⟩
  replace hB := hide (hB.out.trans (hb3.mono hB.out.size))
  replace hg := hide (blk_on hb3 hg.out)
  replace hm1 := hide (hm1.out.below hb3)
  clear hb3
  clear hP2
  go_simp
  refine hK _ _ ?_
  clear hK K
  iterate 3 (refine wpList_plain rfl fun K hK => ?_; go_simp; refine hK _ _ ?_; clear hK K)
  refine wpl_new rfl rfl 27 _ (alloc_adr _ rfl) 7 rfl (.tmp 21) rfl _ (fun _ => rfl) (fun _ => rfl) rfl (by kernel_rfl) (adr_one av (ah : Int) (al : Int)) ?_
  intro w4 hga hb4 hz4
  replace hB := hide (hB.out.trans (hb4.mono hB.out.size))
  replace hg := hide (blk_on hb4 hg.out)
  replace hm1 := hide (hm1.out.below hb4)
  clear hb4
  replace hga := hide hga
  iterate 1 (refine wpList_plain rfl fun K hK => ?_; go_simp; refine hK _ _ ?_; clear hK K)
  refine wpList_nil ?_
  go_simp
  obtain ⟨e0, he0⟩ : ∃ b, (E != 0) = b := ⟨_, rfl⟩
  obtain ⟨b1, hb1⟩ : ∃ b, decide ((T.length : Int) < 1) = b := ⟨_, rfl⟩
  obtain ⟨b2, hb2⟩ : ∃ b, decide ((3 : Int) < (T.length : Int)) = b := ⟨_, rfl⟩
  obtain ⟨BAD, hBAD⟩ : ∃ b, (!C || e0 || b1 || b2) = b := ⟨_, rfl⟩
  replace hBAD := hide hBAD
  go_upto_region 3 with fail
  go_cut [38] (fun bv wx => bv = .bool BAD ∧ w4 = wx)
  case first =>
    have hbad := hBAD.out
    clear hBAD
    replace hbad := hide hbad
    cases C
    · go_wp2_with fail
      go_meet
      exact ⟨by rw [← hbad.out]; rfl, rfl⟩
    cases e0
    · cases b1
      · go_wp2_with fail
        go_meet
        exact ⟨by rw [← hbad.out]; rfl, rfl⟩
      · go_wp2_with fail
        go_meet
        exact ⟨by rw [← hbad.out]; rfl, rfl⟩
    · go_wp2_with fail
      go_meet
      exact ⟨by rw [← hbad.out]; rfl, rfl⟩
  case rest =>
    obtain ⟨rfl, rfl⟩ := hcut
    cases BAD
    · obtain ⟨a, hPa, hRg, ht1, ht3⟩ : ∃ a, PF = some a ∧ R = goodG a T (tailF 0 T) ∧ 1 ≤ T.length ∧ T.length ≤ 3 := by
        have h := pfxG_good PF C T (by rw [hE.out, he0, hb1, hb2]; exact hBAD.out)
        rw [hR.out] at h
        exact h
      have hoa := hps.out a hPa
      have e1 := har.out
      rw [hPa] at e1
      obtain rfl : a = ⟨av, ah, al⟩ := by
        obtain ⟨v, h, l⟩ := a
        have e2 : (#[.bool v, .int .u64 (h : Int), .int .u64 (l : Int)] : Array Value) = #[.bool av, .int .u64 (ah : Int), .int .u64 (al : Int)] := e1
        simp at e2
        obtain ⟨rfl, h1, h2⟩ := e2
        congr 1 <;> omega
      clear hBAD hE he0 hb1 hb2 e1 hPa hR har hps
      replace hRg := hide hRg
      replace hoa := hide hoa
      go_upto_region 5 with fail
      apply wp_region_lit
      refine wpl_ld rfl 27 (.tmp 7) rfl w3.heap.size rfl _ _ hga.out Tryd.underlying27 rfl (by kernel_rfl) ?_
      iterate 1 (refine wpList_plain rfl fun K hK => ?_; go_simp; refine hK _ _ ?_; clear hK K)
      refine wpl_new rfl rfl 80 _ (alloc_pfx _ rfl) 9 rfl (.tmp 41) rfl _ (fun _ => rfl) (fun _ => rfl) rfl (by kernel_rfl) (p_one av (ah : Int) (al : Int) 0) ?_
      intro w5 hgp hb5 hz5
      have hlS := hB.out.size
      have hlS2 : w.heap.size < w4.heap.size := World.block_lt_of_cell? w4 _ (blk_cell hg.out 0)
      clear hga
      replace hB := hide (hB.out.trans (hb5.mono hB.out.size))
      replace hg := hide (blk_on hb5 hg.out)
      replace hm1 := hide (hm1.out.below hb5)
      replace hgp := hide hgp
      refine wpList_nil ?_
      go_simp
      obtain ⟨w6, c6, hcv, hrow, hb6⟩ := bytes_any T w5
      go_upto_region 6 with fail
      apply wp_region_lit
      iterate 2 (refine wpList_plain rfl fun K hK => ?_; go_simp; refine hK _ _ ?_; clear hK K)
      replace hB := hide (hB.out.trans (hb6.mono hB.out.size))
      replace hg := hide (blk_on hb6 hg.out)
      replace hm1 := hide (hm1.out.below hb6)
      replace hgp := hide (blk_on hb6 hgp.out)
      clear hb6
      clear hcv
      replace hrow := hide hrow
      iterate 2 (refine wpList_plain rfl fun K hK => ?_; go_simp; refine hK _ _ ?_; clear hK K)
      refine wpList_nil ?_
      go_simp
      go_upto_block 2 with fail
      have hzS : w.heap.size ≤ w4.heap.size := hlS
      obtain ⟨gp, hgpe⟩ : ∃ x, w4.heap.size = x := ⟨_, rfl⟩
      obtain ⟨rb, hrbe⟩ : ∃ x, w5.heap.size = x := ⟨_, rfl⟩
      have hgpz : w4.heap.size < w6.heap.size := World.block_lt_of_cell? w6 _ (blk_cell hgp.out 0)
      have hrbz : w5.heap.size < w6.heap.size := by
        obtain ⟨b, off, e, hb, -⟩ := hrow.out.ptr (by omega)
        cases e
        exact hb
      rw [hgpe] at hgp hgpz hz5 hzS hlS2 ⊢
      rw [hrbe] at hrow hz5 hrbz ⊢
      clear hm1
      replace hgpe := hide hgpe
      replace hrbe := hide hrbe
      obtain ⟨F, hF⟩ : ∃ F, tailF 0 T = F := ⟨_, rfl⟩
      have hRg' := hRg.out
      rw [hF] at hRg'
      clear hRg
      replace hRg' := hide hRg'
      replace hF := hide hF
      go_loopw [11, 45] (fun _ kv wr => ∃ k m : Nat, k ≤ T.length ∧ kv = .int .i64 (k : Int) ∧ m < 10 ^ k ∧ tailF m (T.drop k) = F ∧ w6.grownBy wr (some gp) ∧ wr.heap[gp]? = some (.cells #[.bool av, .int .u64 (ah : Int), .int .u64 (al : Int), .int .i64 (m : Int)] 80 (0, 0))) (fun _ kv _ => T.length - (intOf kv).toNat)
      case atStart => exact ⟨0, 0, by omega, rfl, by decide, hF.out, grown_refl _ _, hgp.out⟩
      case round =>
        obtain ⟨k, m, hk, rfl, hml, hf, hgr, hgm⟩ := hrel
        have hgrz := hgr.size
        have hgS := grown_other hgr (by omega) (by omega) hg.out
        have hBS : Below w.heap.size w wr := hB.out.trans (below_grown hgr (by have := hB.out.size; omega) (by omega))
        have hm999 : m < 1000 := Nat.lt_of_lt_of_le hml (Nat.le_trans (Nat.pow_le_pow_right (by omega) (show k ≤ 3 by omega)) (by decide))
        replace hf := hide hf
        replace hgr := hide hgr
        replace hgm := hide hgm
        replace hgS := hide hgS
        replace hBS := hide hBS
        replace hml := hide hml
        by_cases hkT : k < T.length
        · have i1 : (k : Int) < (T.length : Int) := by omega
          have i2 : (0 : Int) ≤ (k : Int) := by omega
          obtain ⟨v, hv, hvl, hcv⟩ := hrow.out.byteAt hkT
          have hcv := (World.cell?_of_block (hgr.out.block rb (by omega) (by intro e; cases e; omega))).trans hcv
          rw [Nat.zero_add] at hcv
          have hdr : T.drop k = T.getD k 0 :: T.drop (k + 1) := by
            rw [List.getD_eq_getElem?_getD, List.getElem?_eq_getElem hkT]
            exact List.drop_eq_getElem_cons hkT
          have hf1 := hf.out
          rw [hdr, tailF, hv] at hf1
          clear hdr
          replace hf1 := hide hf1
          replace hv := hide hv
          by_cases hd : 48 ≤ v ∧ v ≤ 57
          · have t1 : decide ((v : Int) < 48) = false := by rw [decide_eq_false_iff_not]; omega
            have t2 : decide ((57 : Int) < (v : Int)) = false := by rw [decide_eq_false_iff_not]; omega
            have n1 : ¬ (v : Int) < 48 := by omega
            have n2 : ¬ (57 : Int) < (v : Int) := by omega
            have w1' : IntKind.i64.wrap (10 * (m : Int)) = ((10 * m : Nat) : Int) := by rw [wraps62 _ (by omega) (by omega)]; omega
            obtain ⟨d, hdd⟩ : ∃ d, v - 48 = d := ⟨_, rfl⟩
            have w2' : IntKind.u8.wrap ((v : Int) - 48) = (d : Int) := by rw [IntKind.wrap_u8]; omega
            have w3' : IntKind.i64.wrap (d : Int) = (d : Int) := wraps62 _ (by omega) (by omega)
            obtain ⟨m10, hm10⟩ : ∃ x, 10 * m = x := ⟨_, rfl⟩
            rw [hm10] at w1'
            obtain ⟨m2, hm2⟩ : ∃ x, m10 + d = x := ⟨_, rfl⟩
            have w4' : IntKind.i64.wrap ((m10 : Int) + (d : Int)) = (m2 : Int) := by rw [wraps62 _ (by omega) (by omega)]; omega
            have hf2 := hf1.out
            rw [if_pos hd, hdd, hm10, hm2] at hf2
            obtain ⟨w9, e9, hg9, g9⟩ := store_cell hgm.out 3 (.int .i64 (m2 : Int))
            have hg9 : w9.heap[gp]? = some (.cells #[.bool av, .int .u64 (ah : Int), .int .u64 (al : Int), .int .i64 (m2 : Int)] 80 (0, 0)) := hg9
            have c9 := blk_cell hgm.out
            have f9 := blk_free hgm.out 3
            have hgr9 := grown_trans' _ _ _ hgr.out g9
            have hml2 : m2 < 10 ^ (k + 1) := by have := hml.out; rw [Nat.pow_succ]; omega
            clear g9
            replace hf2 := hide hf2
            replace hg9 := hide hg9
            replace hgr9 := hide hgr9
            replace hd := hide hd
            replace hdd := hide hdd
            replace hm10 := hide hm10
            replace hm2 := hide hm2
            replace hml2 := hide hml2
            go_wp2_with fail
            refine ⟨⟨k + 1, m2, by omega, by first | rfl | go_num, hml2.out, hf2.out, hgr9.out, hg9.out⟩, by simp only [intOf]; omega⟩
          · have hR0 : R = none := by
              have hf2 := hf1.out
              rw [if_neg hd] at hf2
              rw [hRg'.out, ← hf2]; rfl
            subst hR0
            clear hRg' hF
            have tt : decide ((v : Int) < 48) = true ∨ (decide ((v : Int) < 48) = false ∧ decide ((57 : Int) < (v : Int)) = true) := by
              rcases Nat.lt_or_ge v 48 with h | h
              · exact .inl (by rw [decide_eq_true_eq]; omega)
              · exact .inr ⟨by rw [decide_eq_false_iff_not]; omega, by rw [decide_eq_true_eq]; omega⟩
            replace hd := hide hd
            rcases tt with t1 | ⟨t1, t2⟩
            · have n1 : (v : Int) < 48 := of_decide_eq_true t1
              go_upto_region 10 with fail
              apply wp_region_lit
              iterate 1 (refine wpList_plain rfl fun K hK => ?_; go_simp; refine hK _ _ ?_; clear hK K)
              refine wpl_st rfl 80 (.tmp 2) (.tmp 55) rfl (w.heap.size) 0 rfl (#[.bool false, .int .u64 0, .int .u64 0, .int .i64 0]) rfl hgS.out (by simp) (by kernel_rfl) (p_one _ _ _ _) fun w9 hg9 g9 => ?_
              rw [putA_whole _ _ (by rfl)] at hg9
              have hb9 : Below (w.heap.size) w w9 := (hBS.out).trans (below_grown g9 (by have := (hBS.out).size; omega) (Nat.le_refl _))
              have hld : (loadVar 80 ⟨w.heap.size, 0, none⟩).run Tryd.prog w9 = .ok (.agg (#[.bool false, .int .u64 0, .int .u64 0, .int .i64 0])) w9 := by
                simpa using run_loadVar_mid w9 (w.heap.size) 0 80 (#[.bool false, .int .u64 0, .int .u64 0, .int .i64 0]).toList _ (blk_range hg9) Tryd.underlying80 rfl (by kernel_rfl)
              clear hg9 g9
              replace hld := hide hld
              replace hb9 := hide hb9
              iterate 1 (refine wpList_plain rfl fun K hK => ?_; go_simp; refine hK _ _ ?_; clear hK K)
              refine wpList_nil ?_
              go_simp
              go_wp2_with fail
              exact bodyPost_ret (v := .tuple #[.agg #[.bool false, .int .u64 0, .int .u64 0, .int .i64 0], .int .i64 18]) (by simp [results, Tryd.results84, asAddr, hld.out, Result.andThen]) rfl ⟨rfl, hb9.out⟩
            · have n1 : ¬ (v : Int) < 48 := of_decide_eq_false t1
              have n2 : (57 : Int) < (v : Int) := of_decide_eq_true t2
              go_upto_region 10 with fail
              apply wp_region_lit
              iterate 1 (refine wpList_plain rfl fun K hK => ?_; go_simp; refine hK _ _ ?_; clear hK K)
              refine wpl_st rfl 80 (.tmp 2) (.tmp 55) rfl (w.heap.size) 0 rfl (#[.bool false, .int .u64 0, .int .u64 0, .int .i64 0]) rfl hgS.out (by simp) (by kernel_rfl) (p_one _ _ _ _) fun w9 hg9 g9 => ?_
              rw [putA_whole _ _ (by rfl)] at hg9
              have hb9 : Below (w.heap.size) w w9 := (hBS.out).trans (below_grown g9 (by have := (hBS.out).size; omega) (Nat.le_refl _))
              have hld : (loadVar 80 ⟨w.heap.size, 0, none⟩).run Tryd.prog w9 = .ok (.agg (#[.bool false, .int .u64 0, .int .u64 0, .int .i64 0])) w9 := by
                simpa using run_loadVar_mid w9 (w.heap.size) 0 80 (#[.bool false, .int .u64 0, .int .u64 0, .int .i64 0]).toList _ (blk_range hg9) Tryd.underlying80 rfl (by kernel_rfl)
              clear hg9 g9
              replace hld := hide hld
              replace hb9 := hide hb9
              iterate 1 (refine wpList_plain rfl fun K hK => ?_; go_simp; refine hK _ _ ?_; clear hK K)
              refine wpList_nil ?_
              go_simp
              go_wp2_with fail
              exact bodyPost_ret (v := .tuple #[.agg #[.bool false, .int .u64 0, .int .u64 0, .int .i64 0], .int .i64 18]) (by simp [results, Tryd.results84, asAddr, hld.out, Result.andThen]) rfl ⟨rfl, hb9.out⟩
        · have i1 : ((k : Int) < (T.length : Int)) = False := by rw [eq_iff_iff, iff_false]; omega
          have hdn : T.drop k = [] := List.drop_of_length_le (by omega)
          have hf1 := hf.out
          rw [hdn, tailF] at hf1
          have hR1 : R = if (Adr.mk av ah al).rightP m = true ∧ digL 10 m = T then some (⟨av, ah, al⟩, m) else none := by rw [hRg'.out, ← hf1]; rfl
          clear hRg' hF hdn hf1 hf
          have hRi := pRight_any ⟨av, ah, al⟩ hoa.out (m : Int) wr
          have hNu := pnum_any (m : Int)
          have hcl := clamp128 ⟨av, ah, al⟩ m
          rw [rightP_nat] at hRi
          obtain ⟨RB, hRB⟩ : ∃ x, Adr.rightP ⟨av, ah, al⟩ m = x := ⟨_, rfl⟩
          rw [hRB] at hR1 hRi hcl
          unfold pArr at hRi
          dsimp only at hRi
          have hcg := blk_cell hgm.out
          replace hRi := hide hRi
          replace hNu := hide hNu
          replace hcl := hide hcl
          replace hR1 := hide hR1
          replace hRB := hide hRB
          go_wp2_with fail
          refine hRi.out.mono ?_
          rintro e w7 ⟨rfl, hb7⟩
          have hgm7 := blk_below hb7 (by omega) hgm.out
          have hgS7 := blk_below hb7 (by omega) hgS.out
          have hBS7 := hBS.out.trans (hb7.mono hBS.out.size)
          have hz7 := hb7.size
          clear hb7 hcg hgm hgS hBS hRi
          cases RB
          · obtain rfl : R = none := by rw [hR1.out, if_neg (by simp)]
            replace hgm7 := hide hgm7
            replace hgS7 := hide hgS7
            replace hBS7 := hide hBS7
            go_upto_region 14 with fail
            apply wp_region_lit
            iterate 1 (refine wpList_plain rfl fun K hK => ?_; go_simp; refine hK _ _ ?_; clear hK K)
            refine wpl_st rfl 80 (.tmp 2) (.tmp 75) rfl (w.heap.size) 0 rfl (#[.bool false, .int .u64 0, .int .u64 0, .int .i64 0]) rfl hgS7.out (by simp) (by kernel_rfl) (p_one _ _ _ _) fun w9 hg9 g9 => ?_
            rw [putA_whole _ _ (by rfl)] at hg9
            have hb9 : Below (w.heap.size) w w9 := (hBS7.out).trans (below_grown g9 (by have := (hBS7.out).size; omega) (Nat.le_refl _))
            have hld : (loadVar 80 ⟨w.heap.size, 0, none⟩).run Tryd.prog w9 = .ok (.agg (#[.bool false, .int .u64 0, .int .u64 0, .int .i64 0])) w9 := by
              simpa using run_loadVar_mid w9 (w.heap.size) 0 80 (#[.bool false, .int .u64 0, .int .u64 0, .int .i64 0]).toList _ (blk_range hg9) Tryd.underlying80 rfl (by kernel_rfl)
            clear hg9 g9
            replace hld := hide hld
            replace hb9 := hide hb9
            iterate 1 (refine wpList_plain rfl fun K hK => ?_; go_simp; refine hK _ _ ?_; clear hK K)
            refine wpList_nil ?_
            go_simp
            go_wp2_with fail
            exact bodyPost_ret (v := .tuple #[.agg #[.bool false, .int .u64 0, .int .u64 0, .int .i64 0], .int .i64 18]) (by simp [results, Tryd.results84, asAddr, hld.out, Result.andThen]) rfl ⟨rfl, hb9.out⟩
          · have hR2 := hR1.out
            have hN2 := hNu.out w7
            rw [hcl.out rfl] at hN2
            obtain ⟨D, hD⟩ : ∃ x, digL 10 m = x := ⟨_, rfl⟩
            rw [hD] at hN2 hR2
            have hcg := blk_cell hgm7
            clear hR1 hNu hcl
            replace hgm7 := hide hgm7
            replace hgS7 := hide hgS7
            replace hBS7 := hide hBS7
            replace hN2 := hide hN2
            replace hR2 := hide hR2
            replace hD := hide hD
            by_cases hDT : D = T
            · obtain rfl : R = some (⟨av, ah, al⟩, m) := by rw [hR2.out, if_pos ⟨rfl, hDT⟩]
              rw [hDT] at hN2
              clear hR2 hD
              replace hDT := hide hDT
              go_wp2_with fail
              refine hN2.out.mono ?_
              rintro e w8 ⟨rfl, hb8⟩
              have hgm8 := blk_below hb8 (by omega) hgm7.out
              have hgS8 := blk_below hb8 (by omega) hgS7.out
              have hBS8 := hBS7.out.trans (hb8.mono hBS7.out.size)
              clear hb8 hcg
              replace hgm8 := hide hgm8
              replace hgS8 := hide hgS8
              replace hBS8 := hide hBS8
              go_upto_region 15 with fail
              apply wp_region_lit
              refine wpl_ld rfl 80 (.tmp 9) rfl gp rfl _ _ hgm8.out Tryd.underlying80 rfl (by kernel_rfl) ?_
              refine wpl_st rfl 80 (.tmp 2) (.tmp 76) rfl (w.heap.size) 0 rfl (#[.bool av, .int .u64 (ah : Int), .int .u64 (al : Int), .int .i64 (m : Int)]) rfl hgS8.out (by simp) (by kernel_rfl) (p_one _ _ _ _) fun w9 hg9 g9 => ?_
              rw [putA_whole _ _ (by rfl)] at hg9
              have hb9 : Below (w.heap.size) w w9 := (hBS8.out).trans (below_grown g9 (by have := (hBS8.out).size; omega) (Nat.le_refl _))
              have hld : (loadVar 80 ⟨w.heap.size, 0, none⟩).run Tryd.prog w9 = .ok (.agg (#[.bool av, .int .u64 (ah : Int), .int .u64 (al : Int), .int .i64 (m : Int)])) w9 := by
                simpa using run_loadVar_mid w9 (w.heap.size) 0 80 (#[.bool av, .int .u64 (ah : Int), .int .u64 (al : Int), .int .i64 (m : Int)]).toList _ (blk_range hg9) Tryd.underlying80 rfl (by kernel_rfl)
              clear hg9 g9
              replace hld := hide hld
              replace hb9 := hide hb9
              iterate 1 (refine wpList_plain rfl fun K hK => ?_; go_simp; refine hK _ _ ?_; clear hK K)
              refine wpList_nil ?_
              go_simp
              go_wp2_with fail
              exact bodyPost_ret (v := .tuple #[.agg #[.bool av, .int .u64 (ah : Int), .int .u64 (al : Int), .int .i64 (m : Int)], .int .i64 0]) (by simp [results, Tryd.results84, asAddr, hld.out, Result.andThen]) rfl ⟨rfl, hb9.out⟩
            · obtain rfl : R = none := by rw [hR2.out, if_neg (fun h => hDT h.2)]
              have tq : ((str D).toList == (str T).toList) = false := by rw [str_toList, str_toList]; simpa using hDT
              clear hR2 hD
              replace hDT := hide hDT
              go_wp2_with fail
              refine hN2.out.mono ?_
              rintro e w8 ⟨rfl, hb8⟩
              have hgS8 := blk_below hb8 (by omega) hgS7.out
              have hBS8 := hBS7.out.trans (hb8.mono hBS7.out.size)
              clear hb8 hcg
              replace hgS8 := hide hgS8
              replace hBS8 := hide hBS8
              go_upto_region 14 with fail
              apply wp_region_lit
              iterate 1 (refine wpList_plain rfl fun K hK => ?_; go_simp; refine hK _ _ ?_; clear hK K)
              refine wpl_st rfl 80 (.tmp 2) (.tmp 75) rfl (w.heap.size) 0 rfl (#[.bool false, .int .u64 0, .int .u64 0, .int .i64 0]) rfl hgS8.out (by simp) (by kernel_rfl) (p_one _ _ _ _) fun w9 hg9 g9 => ?_
              rw [putA_whole _ _ (by rfl)] at hg9
              have hb9 : Below (w.heap.size) w w9 := (hBS8.out).trans (below_grown g9 (by have := (hBS8.out).size; omega) (Nat.le_refl _))
              have hld : (loadVar 80 ⟨w.heap.size, 0, none⟩).run Tryd.prog w9 = .ok (.agg (#[.bool false, .int .u64 0, .int .u64 0, .int .i64 0])) w9 := by
                simpa using run_loadVar_mid w9 (w.heap.size) 0 80 (#[.bool false, .int .u64 0, .int .u64 0, .int .i64 0]).toList _ (blk_range hg9) Tryd.underlying80 rfl (by kernel_rfl)
              clear hg9 g9
              replace hld := hide hld
              replace hb9 := hide hb9
              iterate 1 (refine wpList_plain rfl fun K hK => ?_; go_simp; refine hK _ _ ?_; clear hK K)
              refine wpList_nil ?_
              go_simp
              go_wp2_with fail
              exact bodyPost_ret (v := .tuple #[.agg #[.bool false, .int .u64 0, .int .u64 0, .int .i64 0], .int .i64 18]) (by simp [results, Tryd.results84, asAddr, hld.out, Result.andThen]) rfl ⟨rfl, hb9.out⟩
    · have hRn : R = none := by
        have h := pfxG_bad PF C T (by rw [hE.out, he0, hb1, hb2]; exact hBAD.out)
        rw [hR.out] at h
        exact h
      subst hRn
      clear hBAD hR hE he0 hb1 hb2
      go_upto_region 4 with fail
      apply wp_region_lit
      iterate 1 (refine wpList_plain rfl fun K hK => ?_; go_simp; refine hK _ _ ?_; clear hK K)
      refine wpl_st rfl 80 (.tmp 2) (.tmp 39) rfl (w.heap.size) 0 rfl (#[.bool false, .int .u64 0, .int .u64 0, .int .i64 0]) rfl hg.out (by simp) (by kernel_rfl) (p_one _ _ _ _) fun w9 hg9 g9 => ?_
      rw [putA_whole _ _ (by rfl)] at hg9
      have hb9 : Below (w.heap.size) w w9 := (hB.out).trans (below_grown g9 (by have := (hB.out).size; omega) (Nat.le_refl _))
      have hld : (loadVar 80 ⟨w.heap.size, 0, none⟩).run Tryd.prog w9 = .ok (.agg (#[.bool false, .int .u64 0, .int .u64 0, .int .i64 0])) w9 := by
        simpa using run_loadVar_mid w9 (w.heap.size) 0 80 (#[.bool false, .int .u64 0, .int .u64 0, .int .i64 0]).toList _ (blk_range hg9) Tryd.underlying80 rfl (by kernel_rfl)
      clear hg9 g9
      replace hld := hide hld
      replace hb9 := hide hb9
      iterate 1 (refine wpList_plain rfl fun K hK => ?_; go_simp; refine hK _ _ ?_; clear hK K)
      refine wpList_nil ?_
      go_simp
      go_wp2_with fail
      exact bodyPost_ret (v := .tuple #[.agg #[.bool false, .int .u64 0, .int .u64 0, .int .i64 0], .int .i64 18]) (by simp [results, Tryd.results84, asAddr, hld.out, Result.andThen]) rfl ⟨rfl, hb9.out⟩
end Addr05
end Go.Proofs.YtcpokkkdmenmgaaDoor
