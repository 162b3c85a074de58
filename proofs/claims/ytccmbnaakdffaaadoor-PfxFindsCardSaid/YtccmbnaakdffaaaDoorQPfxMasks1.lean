/- pfx: Has, and the law's has. Conditions: numbers of 64 bits. -/
import Derived.Test.YtccmbnaakdffaaaDoorQPfxTexts2
import Derived.Test.YtccmbnaakdffaaaDoorQAddrParses9
namespace Go.Proofs.YtccmbnaakdffaaaDoor
open Go.RowKit Go.ChangeShapes Go.WideShapes Go.ChangeAt Go.Deep
namespace Addr05
/-- Has an address a prefix? -/
def hasP (p : Adr) (i : Int) (a : Adr) : Bool := rightP p i && (a.v6 == p.v6) && decide (a.mask (clampN a i) = p)
theorem has_no1 (p : Adr) (i : Int) (a : Adr) (h : rightP p i = false) : hasP p i a = false := by unfold hasP; rw [h]; rfl
theorem has_no2 (p : Adr) (i : Int) (a : Adr) (h : (a.v6 == p.v6) = false) : hasP p i a = false := by unfold hasP; rw [h]; simp
theorem has_is (p : Adr) (i : Int) (a : Adr) (h1 : rightP p i = true) (h2 : (a.v6 == p.v6) = true) : hasP p i a = decide (a.mask (clampN a i) = p) := by unfold hasP; rw [h1, h2]; rfl
theorem rightP_facts (p : Adr) (k : Nat) (h : rightP p (k : Int) = true) : p.right ∧ k ≤ p.w ∧ p.mask k = p := by
  rw [rightP_nat] at h
  exact rightP_w p k h
theorem has_bits (p : Adr) (k : Nat) (a : Adr) (hp : p.ok) (ha : a.ok) (har : a.right) (h1 : rightP p (k : Int) = true) (h2 : (a.v6 == p.v6) = true) : hasP p (k : Int) a = true ↔ ∀ j, j < k → p.bit j = a.bit j := by
  obtain ⟨hr, hk, hm⟩ := rightP_facts p k h1
  have h6 : a.v6 = p.v6 := by simpa using h2
  have hw : a.w = p.w := by unfold Adr.w; rw [h6]
  have e : clampN a (k : Int) = k := by unfold clampN; omega
  rw [has_is p _ a h1 h2, decide_eq_true_eq, e]
  exact a.mask_eq2 p ha har hp hr h6 k (by omega) hm
set_option maxRecDepth 20000 in
set_option maxHeartbeats 8000000 in
theorem pHas_any (p : Adr) (hop : p.ok) (i : Int) (a : Adr) (hoa : a.ok) (w : World) :
    Calls Tryd.prog 33 #[.agg (pArr p i), .agg #[.bool a.v6, .int .u64 (a.hi : Int), .int .u64 (a.lo : Int)]] w fun e w' => e = .returned (.bool (hasP p i a)) ∧ Below w.heap.size w w' := by
  have hn1 := has_no1 p i a
  have hn2 := has_no2 p i a
  have his := has_is p i a
  have hR := fun w => pRight_any p hop i w
  have hMask := Mask_any a hoa i
  have hmv := a.mask_v6 (clampN a i)
  obtain ⟨⟨mv, mh, ml⟩, hM⟩ : ∃ M, a.mask (clampN a i) = M := ⟨_, rfl⟩
  rw [hM] at hMask his hmv
  obtain ⟨HP, hHP⟩ : ∃ x, hasP p i a = x := ⟨_, rfl⟩
  rw [hHP] at hn1 hn2 his ⊢
  obtain ⟨RP, hRP⟩ : ∃ x, rightP p i = x := ⟨_, rfl⟩
  rw [hRP] at hn1 his hR
  unfold pArr at hR ⊢
  obtain ⟨pv, ph, pl⟩ := p
  obtain ⟨v, hi, lo⟩ := a
  clear hM hRP hop hoa hHP
  dsimp only at hn1 hn2 his hMask hmv hR ⊢
  subst hmv
  unfold Adr.arr at hMask
  dsimp only at hMask
  obtain ⟨w1, hw1⟩ : ∃ w1, w.alloc (.cells #[.bool pv, .int .u64 (ph : Int), .int .u64 (pl : Int), .int .i64 i] 45) = w1 := ⟨_, rfl⟩
  have hg1 : w1.heap[w.heap.size]? = some (.cells #[.bool pv, .int .u64 (ph : Int), .int .u64 (pl : Int), .int .i64 i] 45 (0, 0)) := hw1 ▸ blk_new _ _ _
  have hz1 : w1.heap.size = w.heap.size + 1 := by rw [← hw1]; simp
  have hB1 : Below w.heap.size w w1 := hw1 ▸ (Below.refl _ _).alloc (Nat.le_refl _) _
  obtain ⟨w2, hw2⟩ : ∃ w2, w1.alloc (.cells #[.bool mv, .int .u64 (hi : Int), .int .u64 (lo : Int)] 24) = w2 := ⟨_, rfl⟩
  have hg2 : w2.heap[w1.heap.size]? = some (.cells #[.bool mv, .int .u64 (hi : Int), .int .u64 (lo : Int)] 24 (0, 0)) := hw2 ▸ blk_new _ _ _
  have hB2' : Below w1.heap.size w1 w2 := hw2 ▸ (Below.refl _ _).alloc (Nat.le_refl _) _
  have hz2 : w1.heap.size < w2.heap.size := by rw [← hw2]; simp
  rw [hz1] at hg2
  have hg1 := blk_below hB2' (by omega) hg1
  have hB2 := hB1.trans (hB2'.mono hB1.size)
  clear hB1 hB2'
  have hz : w.heap.size + 1 < w2.heap.size := by omega
  have hzz : w.heap.size < w2.heap.size := by omega
  have hca := fun l : Later w2 => blk_cell (blk_below l.hb hzz hg1)
  have hcb := fun l : Later w2 => blk_cell (blk_below l.hb hz hg2)
  have q1 := fun l : Later w2 => hR l.w
  have q3 := fun l : Later w2 => hMask l.w
  clear hR hMask
  replace hg1 := hide hg1
  replace hg2 := hide hg2
  replace hB2 := hide hB2
  replace q1 := hide q1
  replace q3 := hide q3
  cases RP
  · obtain rfl : HP = false := hn1 rfl
    clear hn1 hn2 his
    go_enter Tryd.func33, Tryd.ntmps33
    go_upto_region 1 with fail
    clear hw1 hw2
    refine wp_region_L (by as_aux_lemma => kernel_rfl) ?_
    refine wpE_seg 0 20 (fuel := 0) (by as_aux_lemma => kernel_rfl) (fun d _ _ _ _ h => by cases d <;> exact h) (by as_aux_lemma => kernel_rfl) (by as_aux_lemma => kernel_rfl) ?_
    simp only [List.drop_zero, List.take_succ_cons, List.take_zero]
    iterate 1 (refine wpQE_step (fun K hK => ?_); go_simp; refine hK _ ?_; clear hK K)
    (refine wpQE_step (fun K hK => ?_); go_simp; apply Exists.intro; refine ⟨fun l => ?_, hK _ ?_⟩; (go_at_call 32; refine (q1.out l).mono ?_; rintro e w' ⟨rfl, hb⟩; exact ⟨rfl, hb⟩); clear hK K)
    refine wpQE_val_skip (.bool false) 6 rfl (fun l => rfl) (by as_aux_lemma => kernel_rfl) ?_
    dsimp only [putU, List.take_succ_cons, List.take_zero, List.drop_succ_cons, List.drop_zero, Act.put]
    iterate 1 (refine wpQE_step (fun K hK => ?_); go_simp; refine hK _ ?_; clear hK K)
    refine wpQE_val_skip (.bool false) 7 rfl (fun l => rfl) (by as_aux_lemma => kernel_rfl) ?_
    dsimp only [putU, List.take_succ_cons, List.take_zero, List.drop_succ_cons, List.drop_zero, Act.put]
    iterate 2 (refine wpQE_step (fun K hK => ?_); go_simp; refine hK _ ?_; clear hK K)
    refine wpQE_nil ?_
    refine wpE_done (by as_aux_lemma => kernel_rfl) (fun w3 hb3 => ?_) 0
    clear hca hcb
    have hB3 := hB2.out.trans (hb3.mono hB2.out.size)
    clear hb3
    replace hB3 := hide hB3
    go_wp2_with fail
    go_ret
    exact ⟨rfl, hB3.out⟩
  by_cases h6 : mv = pv
  · subst h6
    have hfin := his rfl (by simp)
    clear hn1 hn2 his
    by_cases e1 : mh = ph
    · subst e1
      by_cases e2 : ml = pl
      · subst e2
        rw [decide_eq_true rfl] at hfin
        subst hfin
        go_enter Tryd.func33, Tryd.ntmps33
        go_upto_region 1 with fail
        clear hw1 hw2
        refine wp_region_L (by as_aux_lemma => kernel_rfl) ?_
        refine wpE_seg 0 20 (fuel := 0) (by as_aux_lemma => kernel_rfl) (fun d _ _ _ _ h => by cases d <;> exact h) (by as_aux_lemma => kernel_rfl) (by as_aux_lemma => kernel_rfl) ?_
        simp only [List.drop_zero, List.take_succ_cons, List.take_zero]
        iterate 1 (refine wpQE_step (fun K hK => ?_); go_simp; refine hK _ ?_; clear hK K)
        (refine wpQE_step (fun K hK => ?_); go_simp; apply Exists.intro; refine ⟨fun l => ?_, hK _ ?_⟩; (go_at_call 32; refine (q1.out l).mono ?_; rintro e w' ⟨rfl, hb⟩; exact ⟨rfl, hb⟩); clear hK K)
        iterate 7 (refine wpQE_step (fun K hK => ?_); go_simp; refine hK _ ?_; clear hK K)
        iterate 2 (refine wpQE_step (fun K hK => ?_); go_simp; refine hK _ ?_; clear hK K)
        iterate 3 (refine wpQE_step (fun K hK => ?_); go_simp; refine hK _ ?_; clear hK K)
        (refine wpQE_step (fun K hK => ?_); go_simp; apply Exists.intro; refine ⟨fun l => ?_, hK _ ?_⟩; (go_at_call 30; refine (q3.out l).mono ?_; rintro e w' ⟨rfl, hb⟩; exact ⟨rfl, hb⟩); clear hK K)
        iterate 5 (refine wpQE_step (fun K hK => ?_); go_simp; refine hK _ ?_; clear hK K)
        refine wpQE_nil ?_
        refine wpE_done (by as_aux_lemma => kernel_rfl) (fun w3 hb3 => ?_) 0
        clear hca hcb
        have hB3 := hB2.out.trans (hb3.mono hB2.out.size)
        clear hb3
        replace hB3 := hide hB3
        go_wp2_with fail
        go_ret
        exact ⟨rfl, hB3.out⟩
      · have n2 : ¬ (ml : Int) = (pl : Int) := by omega
        rw [decide_eq_false (fun h => e2 (Adr.mk.inj h).2.2)] at hfin
        subst hfin
        replace e2 := hide e2
        go_enter Tryd.func33, Tryd.ntmps33
        go_upto_region 1 with fail
        clear hw1 hw2
        refine wp_region_L (by as_aux_lemma => kernel_rfl) ?_
        refine wpE_seg 0 20 (fuel := 0) (by as_aux_lemma => kernel_rfl) (fun d _ _ _ _ h => by cases d <;> exact h) (by as_aux_lemma => kernel_rfl) (by as_aux_lemma => kernel_rfl) ?_
        simp only [List.drop_zero, List.take_succ_cons, List.take_zero]
        iterate 1 (refine wpQE_step (fun K hK => ?_); go_simp; refine hK _ ?_; clear hK K)
        (refine wpQE_step (fun K hK => ?_); go_simp; apply Exists.intro; refine ⟨fun l => ?_, hK _ ?_⟩; (go_at_call 32; refine (q1.out l).mono ?_; rintro e w' ⟨rfl, hb⟩; exact ⟨rfl, hb⟩); clear hK K)
        iterate 7 (refine wpQE_step (fun K hK => ?_); go_simp; refine hK _ ?_; clear hK K)
        iterate 2 (refine wpQE_step (fun K hK => ?_); go_simp; refine hK _ ?_; clear hK K)
        iterate 3 (refine wpQE_step (fun K hK => ?_); go_simp; refine hK _ ?_; clear hK K)
        (refine wpQE_step (fun K hK => ?_); go_simp; apply Exists.intro; refine ⟨fun l => ?_, hK _ ?_⟩; (go_at_call 30; refine (q3.out l).mono ?_; rintro e w' ⟨rfl, hb⟩; exact ⟨rfl, hb⟩); clear hK K)
        iterate 5 (refine wpQE_step (fun K hK => ?_); go_simp; refine hK _ ?_; clear hK K)
        refine wpQE_nil ?_
        refine wpE_done (by as_aux_lemma => kernel_rfl) (fun w3 hb3 => ?_) 0
        clear hca hcb
        have hB3 := hB2.out.trans (hb3.mono hB2.out.size)
        clear hb3
        replace hB3 := hide hB3
        go_wp2_with fail
        go_ret
        exact ⟨rfl, hB3.out⟩
    · have n1 : ¬ (mh : Int) = (ph : Int) := by omega
      rw [decide_eq_false (fun h => e1 (Adr.mk.inj h).2.1)] at hfin
      subst hfin
      replace e1 := hide e1
      go_enter Tryd.func33, Tryd.ntmps33
      go_upto_region 1 with fail
      clear hw1 hw2
      refine wp_region_L (by as_aux_lemma => kernel_rfl) ?_
      refine wpE_seg 0 20 (fuel := 0) (by as_aux_lemma => kernel_rfl) (fun d _ _ _ _ h => by cases d <;> exact h) (by as_aux_lemma => kernel_rfl) (by as_aux_lemma => kernel_rfl) ?_
      simp only [List.drop_zero, List.take_succ_cons, List.take_zero]
      iterate 1 (refine wpQE_step (fun K hK => ?_); go_simp; refine hK _ ?_; clear hK K)
      (refine wpQE_step (fun K hK => ?_); go_simp; apply Exists.intro; refine ⟨fun l => ?_, hK _ ?_⟩; (go_at_call 32; refine (q1.out l).mono ?_; rintro e w' ⟨rfl, hb⟩; exact ⟨rfl, hb⟩); clear hK K)
      iterate 7 (refine wpQE_step (fun K hK => ?_); go_simp; refine hK _ ?_; clear hK K)
      iterate 2 (refine wpQE_step (fun K hK => ?_); go_simp; refine hK _ ?_; clear hK K)
      iterate 3 (refine wpQE_step (fun K hK => ?_); go_simp; refine hK _ ?_; clear hK K)
      (refine wpQE_step (fun K hK => ?_); go_simp; apply Exists.intro; refine ⟨fun l => ?_, hK _ ?_⟩; (go_at_call 30; refine (q3.out l).mono ?_; rintro e w' ⟨rfl, hb⟩; exact ⟨rfl, hb⟩); clear hK K)
      iterate 5 (refine wpQE_step (fun K hK => ?_); go_simp; refine hK _ ?_; clear hK K)
      refine wpQE_nil ?_
      refine wpE_done (by as_aux_lemma => kernel_rfl) (fun w3 hb3 => ?_) 0
      clear hca hcb
      have hB3 := hB2.out.trans (hb3.mono hB2.out.size)
      clear hb3
      replace hB3 := hide hB3
      go_wp2_with fail
      go_ret
      exact ⟨rfl, hB3.out⟩
  · obtain rfl : HP = false := hn2 (by simpa using h6)
    clear hn1 hn2 his
    cases mv <;> cases pv
    · exact absurd rfl h6
    · go_enter Tryd.func33, Tryd.ntmps33
      go_upto_region 1 with fail
      clear hw1 hw2
      refine wp_region_L (by as_aux_lemma => kernel_rfl) ?_
      refine wpE_seg 0 20 (fuel := 0) (by as_aux_lemma => kernel_rfl) (fun d _ _ _ _ h => by cases d <;> exact h) (by as_aux_lemma => kernel_rfl) (by as_aux_lemma => kernel_rfl) ?_
      simp only [List.drop_zero, List.take_succ_cons, List.take_zero]
      iterate 1 (refine wpQE_step (fun K hK => ?_); go_simp; refine hK _ ?_; clear hK K)
      (refine wpQE_step (fun K hK => ?_); go_simp; apply Exists.intro; refine ⟨fun l => ?_, hK _ ?_⟩; (go_at_call 32; refine (q1.out l).mono ?_; rintro e w' ⟨rfl, hb⟩; exact ⟨rfl, hb⟩); clear hK K)
      iterate 7 (refine wpQE_step (fun K hK => ?_); go_simp; refine hK _ ?_; clear hK K)
      iterate 1 (refine wpQE_step (fun K hK => ?_); go_simp; refine hK _ ?_; clear hK K)
      refine wpQE_val_skip (.bool false) 7 rfl (fun l => rfl) (by as_aux_lemma => kernel_rfl) ?_
      dsimp only [putU, List.take_succ_cons, List.take_zero, List.drop_succ_cons, List.drop_zero, Act.put]
      iterate 2 (refine wpQE_step (fun K hK => ?_); go_simp; refine hK _ ?_; clear hK K)
      refine wpQE_nil ?_
      refine wpE_done (by as_aux_lemma => kernel_rfl) (fun w3 hb3 => ?_) 0
      clear hca hcb
      have hB3 := hB2.out.trans (hb3.mono hB2.out.size)
      clear hb3
      replace hB3 := hide hB3
      go_wp2_with fail
      go_ret
      exact ⟨rfl, hB3.out⟩
    · go_enter Tryd.func33, Tryd.ntmps33
      go_upto_region 1 with fail
      clear hw1 hw2
      refine wp_region_L (by as_aux_lemma => kernel_rfl) ?_
      refine wpE_seg 0 20 (fuel := 0) (by as_aux_lemma => kernel_rfl) (fun d _ _ _ _ h => by cases d <;> exact h) (by as_aux_lemma => kernel_rfl) (by as_aux_lemma => kernel_rfl) ?_
      simp only [List.drop_zero, List.take_succ_cons, List.take_zero]
      iterate 1 (refine wpQE_step (fun K hK => ?_); go_simp; refine hK _ ?_; clear hK K)
      (refine wpQE_step (fun K hK => ?_); go_simp; apply Exists.intro; refine ⟨fun l => ?_, hK _ ?_⟩; (go_at_call 32; refine (q1.out l).mono ?_; rintro e w' ⟨rfl, hb⟩; exact ⟨rfl, hb⟩); clear hK K)
      iterate 7 (refine wpQE_step (fun K hK => ?_); go_simp; refine hK _ ?_; clear hK K)
      iterate 1 (refine wpQE_step (fun K hK => ?_); go_simp; refine hK _ ?_; clear hK K)
      refine wpQE_val_skip (.bool false) 7 rfl (fun l => rfl) (by as_aux_lemma => kernel_rfl) ?_
      dsimp only [putU, List.take_succ_cons, List.take_zero, List.drop_succ_cons, List.drop_zero, Act.put]
      iterate 2 (refine wpQE_step (fun K hK => ?_); go_simp; refine hK _ ?_; clear hK K)
      refine wpQE_nil ?_
      refine wpE_done (by as_aux_lemma => kernel_rfl) (fun w3 hb3 => ?_) 0
      clear hca hcb
      have hB3 := hB2.out.trans (hb3.mono hB2.out.size)
      clear hb3
      replace hB3 := hide hB3
      go_wp2_with fail
      go_ret
      exact ⟨rfl, hB3.out⟩
    · exact absurd rfl h6
end Addr05
end Go.Proofs.YtccmbnaakdffaaaDoor
/- pfx: the law's has. Conditions: numbers of 64 bits, an address that may be. -/
namespace Go.Proofs.YtccmbnaakdffaaaDoor
open Go.RowKit Go.ChangeShapes Go.WideShapes Go.ChangeAt Go.Deep
namespace Addr05
set_option maxRecDepth 20000 in
set_option maxHeartbeats 8000000 in
theorem phas_any (p : Adr) (hop : p.ok) (i : Int) (a : Adr) (hoa : a.ok) (har : a.right) (w : World) :
    Calls Tryd.prog 34 #[.agg (pArr p i), .agg #[.bool a.v6, .int .u64 (a.hi : Int), .int .u64 (a.lo : Int)]] w fun e w' => e = .returned (.bool (hasP p i a)) ∧ Below w.heap.size w w' := by
  have hn1 := has_no1 p i a
  have hn2 := has_no2 p i a
  have hR := fun w => pright_any p hop i w
  have hBp := bits_any p hop
  have hBa := bits_any a hoa
  have hblp := p.bits_length
  have hbla := a.bits_length
  have hbgp := p.bits_get
  have hbga := a.bits_get
  have hwp := p.w_le
  have hwp0 : 0 < p.w := by unfold Adr.w; split <;> omega
  have hwa : (a.v6 == p.v6) = true → a.w = p.w := fun h => by unfold Adr.w; rw [show a.v6 = p.v6 by simpa using h]
  have hbits : ∀ k : Nat, i = (k : Int) → rightP p i = true → (a.v6 == p.v6) = true → (hasP p i a = true ↔ ∀ j, j < k → p.bit j = a.bit j) := fun k h1 h2 h3 => by
    subst h1
    exact has_bits p k a hop hoa har h2 h3
  have hpos : rightP p i = true → ∃ k : Nat, i = (k : Int) ∧ k ≤ p.w := fun h => by
    have h0 : 0 ≤ i := by
      rcases Int.lt_or_le i 0 with h1 | h1
      · rw [right_no2 p i h1] at h; cases h
      · exact h1
    obtain ⟨k, rfl⟩ : ∃ k : Nat, i = (k : Int) := ⟨i.toNat, by omega⟩
    exact ⟨k, rfl, (rightP_facts p k h).2.1⟩
  obtain ⟨HP, hHP⟩ : ∃ x, hasP p i a = x := ⟨_, rfl⟩
  rw [hHP] at hn1 hn2 hbits ⊢
  obtain ⟨RP, hRP⟩ : ∃ x, rightP p i = x := ⟨_, rfl⟩
  rw [hRP] at hn1 hR hbits hpos
  obtain ⟨BP, hBP⟩ : ∃ x, p.bits = x := ⟨_, rfl⟩
  obtain ⟨BA, hBA⟩ : ∃ x, a.bits = x := ⟨_, rfl⟩
  rw [hBP] at hBp hblp hbgp
  rw [hBA] at hBa hbla hbga
  obtain ⟨fp, hfp⟩ : ∃ x, p.bit = x := ⟨_, rfl⟩
  obtain ⟨fa, hfa⟩ : ∃ x, a.bit = x := ⟨_, rfl⟩
  rw [hfp] at hbgp hbits
  rw [hfa] at hbga hbits
  obtain ⟨W, hW⟩ : ∃ x, p.w = x := ⟨_, rfl⟩
  rw [hW] at hblp hbgp hwp hwp0 hwa hpos
  obtain ⟨W2, hW2⟩ : ∃ x, a.w = x := ⟨_, rfl⟩
  rw [hW2] at hbla hbga hwa
  clear hop hoa har hHP hRP hBP hBA hfp hfa hW hW2
  unfold pArr at hR ⊢
  obtain ⟨pv, ph, pl⟩ := p
  obtain ⟨v, hi, lo⟩ := a
  dsimp only at hn1 hn2 hR hBp hBa hwa hbits ⊢
  obtain ⟨w1, hw1⟩ : ∃ w1, w.alloc (.cells #[.bool pv, .int .u64 (ph : Int), .int .u64 (pl : Int), .int .i64 i] 45) = w1 := ⟨_, rfl⟩
  have hg1 : w1.heap[w.heap.size]? = some (.cells #[.bool pv, .int .u64 (ph : Int), .int .u64 (pl : Int), .int .i64 i] 45 (0, 0)) := hw1 ▸ blk_new _ _ _
  have hz1 : w1.heap.size = w.heap.size + 1 := by rw [← hw1]; simp
  have hB1 : Below w.heap.size w w1 := hw1 ▸ (Below.refl _ _).alloc (Nat.le_refl _) _
  obtain ⟨w2, hw2⟩ : ∃ w2, w1.alloc (.cells #[.bool v, .int .u64 (hi : Int), .int .u64 (lo : Int)] 24) = w2 := ⟨_, rfl⟩
  have hg2 : w2.heap[w1.heap.size]? = some (.cells #[.bool v, .int .u64 (hi : Int), .int .u64 (lo : Int)] 24 (0, 0)) := hw2 ▸ blk_new _ _ _
  have hB2' : Below w1.heap.size w1 w2 := hw2 ▸ (Below.refl _ _).alloc (Nat.le_refl _) _
  rw [hz1] at hg2
  have hg1 := blk_below hB2' (by omega) hg1
  have hB := hB1.trans (hB2'.mono hB1.size)
  clear hB1 hB2'
  replace hB := hide hB
  replace hg1 := hide hg1
  replace hg2 := hide hg2
  replace hR := hide hR
  replace hBp := hide hBp
  replace hBa := hide hBa
  replace hbgp := hide hbgp
  replace hbga := hide hbga
  replace hbits := hide hbits
  replace hpos := hide hpos
  replace hn1 := hide hn1
  replace hn2 := hide hn2
  replace hwa := hide hwa
  have hca := blk_cell hg1.out
  go_enter Tryd.func34, Tryd.ntmps34
  go_wp2_with fail
  clear hw1 hw2 hz1
  refine (hR.out w2).mono ?_
  rintro e w3 ⟨rfl, hb3⟩
  replace hB := hide (hB.out.trans (hb3.mono hB.out.size))
  replace hg1 := hide (blk_on hb3 hg1.out)
  replace hg2 := hide (blk_on hb3 hg2.out)
  clear hb3
  clear hca hR
  cases RP
  · obtain rfl : HP = false := hn1.out rfl
    clear hn1 hn2 hbits hpos
    go_wp2_with fail
    go_ret
    exact ⟨rfl, hB.out⟩
  have hca := blk_cell hg1.out
  have hcb := blk_cell hg2.out
  by_cases h6 : v = pv
  · subst h6
    obtain ⟨k, rfl, hk⟩ := hpos.out rfl
    obtain rfl : W2 = W := hwa.out (by simp)
    have hiff := hbits.out k rfl rfl (by simp)
    clear hn1 hn2 hbits hpos hwa
    replace hiff := hide hiff
    go_upto_region 3 with fail
    clear hca hcb
    have hla := fun l : Later w3 => blk_cell (blk_on l.hb hg1.out)
    have hlb := fun l : Later w3 => blk_cell (blk_on l.hb hg2.out)
    refine wp_region_L (by as_aux_lemma => kernel_rfl) ?_
    refine wpE_seg 0 2 (fuel := 5) (by as_aux_lemma => kernel_rfl) (fun d _ _ _ _ h => by cases d <;> exact h) (by as_aux_lemma => kernel_rfl) (by as_aux_lemma => kernel_rfl) ?_
    simp only [List.drop_zero, List.take_succ_cons, List.take_zero]
    iterate 2 (refine wpQE_step (fun K hK => ?_); go_simp; refine hK _ ?_; clear hK K)
    refine wpQE_nil ?_
    refine wpE_seg 3 1 (fuel := 4) (by as_aux_lemma => kernel_rfl) (fun d _ _ _ _ h => by cases d <;> exact h) (by as_aux_lemma => kernel_rfl) (by as_aux_lemma => kernel_rfl) ?_
    simp only [List.drop_succ_cons, List.drop_zero, List.take_succ_cons, List.take_zero]
    iterate 1 (refine wpQE_step (fun K hK => ?_); go_simp; refine hK _ ?_; clear hK K)
    refine wpQE_nil ?_
    clear hla hlb
    refine wpE_step 2 (fuel := 3) rfl (by as_aux_lemma => kernel_rfl) (fun l K hK => ?_)
    go_simp
    go_at_call 31
    refine (hBp.out l.w).mono ?_
    rintro e w4 ⟨v1, rfl, ho1, hb4⟩
    obtain ⟨A1, c1, rfl, hc1, hm1, hv1⟩ := ho1.form
    refine hK _ _ hb4 ?_
    clear hK K ho1
    have hb34 := l.hb.trans (hb4.mono l.hb.size)
    clear hb4
    replace hB := hide (hB.out.trans (hb34.mono hB.out.size))
    replace hg1 := hide (blk_on hb34 hg1.out)
    replace hg2 := hide (blk_on hb34 hg2.out)
    clear hb34
    refine wpE_step 4 (fuel := 2) rfl (by as_aux_lemma => kernel_rfl) (fun l2 K hK => ?_)
    go_simp
    go_at_call 31
    refine (hBa.out l2.w).mono ?_
    rintro e w5 ⟨v2, rfl, ho2, hb5⟩
    obtain ⟨A2, c2, rfl, hc2, hm2, hv2⟩ := ho2.form
    refine hK _ _ hb5 ?_
    clear hK K ho2
    have hb45 := l2.hb.trans (hb5.mono l2.hb.size)
    clear hb5
    replace hv1 := hide hv1
    replace hB := hide (hB.out.trans (hb45.mono hB.out.size))
    replace hg1 := hide (blk_on hb45 hg1.out)
    replace hg2 := hide (blk_on hb45 hg2.out)
    replace hv1 := hide (hv1.out.on hb45)
    clear hb45
    replace hv2 := hide hv2
    refine wpE_seg 5 2 (fuel := 0) (by as_aux_lemma => kernel_rfl) (fun d _ _ _ _ h => by cases d <;> exact h) (by as_aux_lemma => kernel_rfl) (by as_aux_lemma => kernel_rfl) ?_
    simp only [List.drop_succ_cons, List.drop_zero, List.take_succ_cons, List.take_zero]
    iterate 2 (refine wpQE_step (fun K hK => ?_); go_simp; refine hK _ ?_; clear hK K)
    refine wpQE_nil ?_
    refine wpE_done (by as_aux_lemma => kernel_rfl) (fun w6 hb6 => ?_) 0
    replace hB := hide (hB.out.trans (hb6.mono hB.out.size))
    replace hg1 := hide (blk_on hb6 hg1.out)
    replace hg2 := hide (blk_on hb6 hg2.out)
    replace hv1 := hide (hv1.out.on hb6)
    replace hv2 := hide (hv2.out.on hb6)
    clear hb6
    rw [hblp] at hc1
    rw [hbla] at hc2
    have hv1' := hv1.out
    have hv2' := hv2.out
    rw [hblp] at hv1'
    rw [hbla] at hv2'
    obtain ⟨b1, o1, rfl, hlt1, hcell1⟩ := ints_ptr hv1' hwp0
    obtain ⟨b2, o2, rfl, hlt2, hcell2⟩ := ints_ptr hv2' hwp0
    clear hv1 hv2 hv1' hv2' hBp hBa
    have hcg := blk_cell hg1.out
    replace hcell1 := hide hcell1
    replace hcell2 := hide hcell2
    go_wp2_with fail
    go_loopw [7] (fun iv wr => ∃ j : Nat, j ≤ k ∧ iv = .int .i64 (j : Int) ∧ (∀ x, x < j → fp x = fa x) ∧ Below w6.heap.size w6 wr) (fun iv _ => k - (intOf iv).toNat)
    case atStart => exact ⟨0, by omega, rfl, fun x h => by omega, Below.refl _ _⟩
    case round =>
      obtain ⟨j, hj, rfl, hall, hbr⟩ := hrel
      have hgr := blk_on hbr hg1.out
      have hBr := hB.out.trans (hbr.mono hB.out.size)
      clear hcg
      have hcg := blk_cell hgr
      by_cases hjk : j < k
      · have i1 : (j : Int) < (k : Int) := by omega
        have i2 : (0 : Int) ≤ (j : Int) := by omega
        have i3 : (j : Int) < (W2 : Int) := by omega
        have e1 := hcell1.out j _ (hbgp.out j (by omega))
        have e2 := hcell2.out j _ (hbga.out j (by omega))
        obtain ⟨y1, hy1⟩ : ∃ y, fp j = y := ⟨_, rfl⟩
        obtain ⟨y2, hy2⟩ : ∃ y, fa j = y := ⟨_, rfl⟩
        rw [hy1] at e1
        rw [hy2] at e2
        have l1 := fun l : Later wr => (World.cell?_of_block (l.hb.block b1 (by have := hbr.size; omega))).trans ((World.cell?_of_block (hbr.block b1 hlt1)).trans e1)
        have l2 := fun l : Later wr => (World.cell?_of_block (l.hb.block b2 (by have := hbr.size; omega))).trans ((World.cell?_of_block (hbr.block b2 hlt2)).trans e2)
        clear e1 e2
        replace hall := hide hall
        replace hy1 := hide hy1
        replace hy2 := hide hy2
        replace hbr := hide hbr
        replace hBr := hide hBr
        replace hgr := hide hgr
        by_cases hyy : y1 = y2
        · have t3 : ((y1 : Int) != (y2 : Int)) = false := by rw [hyy]; simp
          go_upto_region 7 with fail
          clear hcg
          refine wp_region_L (by as_aux_lemma => kernel_rfl) ?_
          refine wpE_seg 0 9 (fuel := 0) (by as_aux_lemma => kernel_rfl) (fun d _ _ _ _ h => by cases d <;> exact h) (by as_aux_lemma => kernel_rfl) (by as_aux_lemma => kernel_rfl) ?_
          simp only [List.drop_zero, List.take_succ_cons, List.take_zero]
          iterate 9 (refine wpQE_step (fun K hK => ?_); go_simp; refine hK _ ?_; clear hK K)
          refine wpQE_nil ?_
          refine wpE_done (by as_aux_lemma => kernel_rfl) (fun w7 hb7 => ?_) 0
          clear l1 l2
          have hall' : ∀ x, x < j + 1 → fp x = fa x := fun x h => by
            rcases Nat.lt_or_ge x j with h1 | h1
            · exact hall.out x h1
            · obtain rfl : x = j := by omega
              rw [hy1.out, hy2.out, hyy]
          have hb7' := hbr.out.trans (hb7.mono hbr.out.size)
          clear hb7
          subst hyy
          replace hall' := hide hall'
          replace hb7' := hide hb7'
          go_wp2_with fail
          exact ⟨⟨j + 1, by omega, by first | rfl | go_num, hall'.out, hb7'.out⟩, by simp only [intOf]; omega⟩
        · have t3 : ((y1 : Int) != (y2 : Int)) = true := by rw [bne_iff_ne]; omega
          have t4 : ¬ (y1 : Int) = (y2 : Int) := by omega
          obtain rfl : HP = false := by
            cases HP
            · rfl
            · exact absurd (hiff.out.1 rfl j hjk) (by rw [hy1.out, hy2.out]; exact hyy)
          replace hyy := hide hyy
          go_upto_region 7 with fail
          clear hcg
          refine wp_region_L (by as_aux_lemma => kernel_rfl) ?_
          refine wpE_seg 0 9 (fuel := 0) (by as_aux_lemma => kernel_rfl) (fun d _ _ _ _ h => by cases d <;> exact h) (by as_aux_lemma => kernel_rfl) (by as_aux_lemma => kernel_rfl) ?_
          simp only [List.drop_zero, List.take_succ_cons, List.take_zero]
          iterate 9 (refine wpQE_step (fun K hK => ?_); go_simp; refine hK _ ?_; clear hK K)
          refine wpQE_nil ?_
          refine wpE_done (by as_aux_lemma => kernel_rfl) (fun w7 hb7 => ?_) 0
          clear l1 l2
          have hB7 := hBr.out.trans (hb7.mono hBr.out.size)
          clear hb7
          replace hB7 := hide hB7
          go_wp2_with fail
          go_ret
          exact ⟨rfl, hB7.out⟩
      · obtain rfl : j = k := by omega
        have i1 : ((j : Int) < (j : Int)) = False := by simp
        obtain rfl : HP = true := hiff.out.2 hall
        clear hj hk hgr hbr
        replace hall := hide hall
        replace hjk := hide hjk
        replace hBr := hide hBr
        go_wp2_with fail
        go_ret
        exact ⟨rfl, hBr.out⟩
  · obtain rfl : HP = false := hn2.out (by simpa using h6)
    clear hn1 hn2 hbits hpos hwa
    cases v <;> cases pv
    · exact absurd rfl h6
    · go_wp2_with fail
      go_ret
      exact ⟨rfl, hB.out⟩
    · go_wp2_with fail
      go_ret
      exact ⟨rfl, hB.out⟩
    · exact absurd rfl h6
end Addr05
end Go.Proofs.YtccmbnaakdffaaaDoor
/- The walk of PfxMasks: it answers true. Condition: the cell of bytealg.MaxLen. -/
namespace Go.Proofs.YtccmbnaakdffaaaDoor
open Go.RowKit Go.ChangeShapes Go.WideShapes Go.ChangeAt Go.Deep
namespace Addr05
set_option maxRecDepth 20000 in
set_option maxHeartbeats 8000000 in
theorem pmasks_walk (a : Adr) (hoa : a.ok) (n : Int) (p : Adr) (hop : p.ok) (i : Int) (w : World) (hm : MaxAt w) :
    Calls Tryd.prog 8 #[.agg #[.bool a.v6, .int .u64 (a.hi : Int), .int .u64 (a.lo : Int)], .int .i64 n, .agg (pArr p i)] w fun e w' => e = .returned (.bool true) ∧ Below w.heap.size w w' := by
  have hA := pawake_any
  have hRa := fun w => Right_any a.v6 a.hi a.lo w
  have hri := rightB_iff a
  have hMk := Mask_any a hoa n
  have hwp0 : 0 < a.w := by unfold Adr.w; split <;> omega
  have hw128 := a.w_le
  have hBa := bits_any a hoa
  have hbla := a.bits_length
  have hbga := a.bits_get
  have hmo := a.mask_ok hoa (clampN a n)
  have hmr := fun h => a.mask_right h (clampN a n)
  have hm6 := a.mask_v6 (clampN a n)
  have hmw := a.mask_w (clampN a n)
  have hcw : clampN a n ≤ a.w := by unfold clampN; omega
  have hcn : ∀ j : Nat, j < a.w → ((j : Int) < n ↔ j < clampN a n) := by intro j hj; unfold clampN; omega
  have hmb := fun j hj => a.mask_bit hoa (clampN a n) hcw j hj
  have hBm := bits_any (a.mask (clampN a n)) hmo
  have hblm := (a.mask (clampN a n)).bits_length
  have hbgm := (a.mask (clampN a n)).bits_get
  have hRm := fun w => Right_any (a.mask (clampN a n)).v6 (a.mask (clampN a n)).hi (a.mask (clampN a n)).lo w
  have hrim := rightB_iff (a.mask (clampN a n))
  rw [hmw] at hblm hbgm
  have hpR := fun w => pRight_any p hop i w
  have hpr := fun w => pright_any p hop i w
  have hH1 := fun w => pHas_any p hop i a hoa w
  have hH2 := fun har w => phas_any p hop i a hoa har w
  obtain ⟨W, hW⟩ : ∃ x, a.w = x := ⟨_, rfl⟩
  rw [hW] at hwp0 hw128 hbla hbga hcn hmb hblm hbgm
  obtain ⟨RB, hRB⟩ : ∃ x, rightB a.v6 a.hi a.lo = x := ⟨_, rfl⟩
  rw [hRB] at hRa hri
  obtain ⟨B, hBe⟩ : ∃ x, clampN a n = x := ⟨_, rfl⟩
  rw [hBe] at hMk hm6 hcn hmb hBm hblm hbgm hRm hrim hmr
  obtain ⟨M, hMe⟩ : ∃ x, a.mask B = x := ⟨_, rfl⟩
  rw [hMe] at hMk hm6 hmb hBm hblm hbgm hRm hrim hmr
  obtain ⟨RP, hRP⟩ : ∃ x, rightP p i = x := ⟨_, rfl⟩
  rw [hRP] at hpR hpr
  obtain ⟨HP, hHP⟩ : ∃ x, hasP p i a = x := ⟨_, rfl⟩
  rw [hHP] at hH1 hH2
  obtain ⟨XA, hXA⟩ : ∃ x, a.bits = x := ⟨_, rfl⟩
  obtain ⟨XM, hXM⟩ : ∃ x, M.bits = x := ⟨_, rfl⟩
  rw [hXA] at hBa hbla hbga
  rw [hXM] at hBm hblm hbgm
  obtain ⟨fa, hfa⟩ : ∃ x, a.bit = x := ⟨_, rfl⟩
  obtain ⟨fm, hfm⟩ : ∃ x, M.bit = x := ⟨_, rfl⟩
  rw [hfa] at hbga hmb
  rw [hfm] at hbgm hmb
  have hmrB : RB = true → rightB M.v6 M.hi M.lo = true := fun h => hrim.2 (hmr (hri.1 h))
  have harR : RB = true → a.right := hri.1
  clear hri hrim hmr hmw hcw hRB hBe hMe hRP hHP hXA hXM hfa hfm hW hmo hop hoa
  unfold pArr at hpR hpr hH1 hH2 ⊢
  obtain ⟨pv, ph, pl⟩ := p
  obtain ⟨mv, mh, ml⟩ := M
  unfold Adr.arr at hMk
  dsimp only at hm6 hMk hRm hBm hpR hpr hH1 hH2 hmrB ⊢
  subst hm6
  obtain ⟨w1, hw1⟩ : ∃ w1, w.alloc (.cells #[.bool a.v6, .int .u64 (a.hi : Int), .int .u64 (a.lo : Int)] 24) = w1 := ⟨_, rfl⟩
  have hg1 : w1.heap[w.heap.size]? = some (.cells #[.bool a.v6, .int .u64 (a.hi : Int), .int .u64 (a.lo : Int)] 24 (0, 0)) := hw1 ▸ blk_new _ _ _
  have hz1 : w1.heap.size = w.heap.size + 1 := by rw [← hw1]; simp
  have hB1 : Below w.heap.size w w1 := hw1 ▸ (Below.refl _ _).alloc (Nat.le_refl _) _
  obtain ⟨w2, hw2⟩ : ∃ w2, w1.alloc (.cells #[.bool pv, .int .u64 (ph : Int), .int .u64 (pl : Int), .int .i64 i] 45) = w2 := ⟨_, rfl⟩
  have hg2 : w2.heap[w1.heap.size]? = some (.cells #[.bool pv, .int .u64 (ph : Int), .int .u64 (pl : Int), .int .i64 i] 45 (0, 0)) := hw2 ▸ blk_new _ _ _
  have hB2' : Below w1.heap.size w1 w2 := hw2 ▸ (Below.refl _ _).alloc (Nat.le_refl _) _
  rw [hz1] at hg2
  have hg1 := blk_below hB2' (by omega) hg1
  have hB := hB1.trans (hB2'.mono hB1.size)
  have hm2 := hm.below hB
  clear hB1 hB2' hm
  replace hB := hide hB
  replace hg1 := hide hg1
  replace hg2 := hide hg2
  replace hm2 := hide hm2
  replace hA := hide hA
  replace hRa := hide hRa
  replace hMk := hide hMk
  replace hBa := hide hBa
  replace hbga := hide hbga
  replace hcn := hide hcn
  replace hmb := hide hmb
  replace hBm := hide hBm
  replace hbgm := hide hbgm
  replace hRm := hide hRm
  replace hpR := hide hpR
  replace hpr := hide hpr
  replace hH1 := hide hH1
  replace hH2 := hide hH2
  replace hmrB := hide hmrB
  replace harR := hide harR
  have hca := blk_cell hg1.out
  go_enter Tryd.func8, Tryd.ntmps8
  go_wp2_with fail
  clear hw1 hw2 hz1
  refine (hRa.out w2).mono ?_
  rintro e w3 ⟨rfl, hb3⟩
  replace hB := hide (hB.out.trans (hb3.mono hB.out.size))
  replace hg1 := hide (blk_on hb3 hg1.out)
  replace hg2 := hide (blk_on hb3 hg2.out)
  replace hm2 := hide (hm2.out.below hb3)
  clear hb3
  clear hca hRa
  cases RB
  · go_wp2_with fail
    refine (hA.out w3 hm2.out).mono ?_
    rintro e w4 ⟨rfl, hb4⟩
    replace hB := hide (hB.out.trans (hb4.mono hB.out.size))
    replace hg1 := hide (blk_on hb4 hg1.out)
    replace hg2 := hide (blk_on hb4 hg2.out)
    replace hm2 := hide (hm2.out.below hb4)
    clear hb4
    go_wp2_with fail
    go_ret
    exact ⟨rfl, hB.out⟩
  have hmr := hmrB.out rfl
  have har := harR.out rfl
  have hRm' := hRm.out
  rw [hmr] at hRm'
  have hH2' := hH2.out har
  clear hmrB harR hmr har hRm hH2
  replace hRm' := hide hRm'
  replace hH2' := hide hH2'
  go_upto_region 3 with fail
  apply wp_region_lit
  refine wpl_ld rfl 24 (.tmp 3) rfl w.heap.size rfl _ _ hg1.out Tryd.underlying24 rfl (by kernel_rfl) ?_
  iterate 1 (refine wpList_plain rfl fun K hK => ?_; go_simp; refine hK _ _ ?_; clear hK K)
  refine wpList_plain rfl fun K hK => ?_
  go_simp
  refine (hMk.out w3).mono ?_
  rintro e w4 ⟨rfl, hb4⟩
  replace hB := hide (hB.out.trans (hb4.mono hB.out.size))
  replace hg1 := hide (blk_on hb4 hg1.out)
  replace hg2 := hide (blk_on hb4 hg2.out)
  replace hm2 := hide (hm2.out.below hb4)
  clear hb4
  clear hMk
  go_simp
  refine hK _ _ ?_
  clear hK K
  refine wpl_new rfl rfl 24 _ (alloc_adr _ rfl) 7 rfl (.tmp 17) rfl _ (fun _ => rfl) (fun _ => rfl) rfl (by kernel_rfl) (adr_one a.v6 (mh : Int) (ml : Int)) ?_
  intro w5 hgm hb5 hz5
  replace hB := hide (hB.out.trans (hb5.mono hB.out.size))
  replace hg1 := hide (blk_on hb5 hg1.out)
  replace hg2 := hide (blk_on hb5 hg2.out)
  replace hm2 := hide (hm2.out.below hb5)
  clear hb5
  replace hgm := hide hgm
  refine wpList_nil ?_
  go_simp
  have hla := fun l : Later w5 => blk_cell (blk_on l.hb hg1.out)
  have hlb := fun l : Later w5 => blk_cell (blk_on l.hb hgm.out)
  go_upto_region 4 with fail
  refine wp_region_L (by as_aux_lemma => kernel_rfl) ?_
  refine wpE_seg 0 1 (fuel := 5) (by as_aux_lemma => kernel_rfl) (fun d _ _ _ _ h => by cases d <;> exact h) (by as_aux_lemma => kernel_rfl) (by as_aux_lemma => kernel_rfl) ?_
  simp only [List.drop_zero, List.take_succ_cons, List.take_zero]
  iterate 1 (refine wpQE_step (fun K hK => ?_); go_simp; refine hK _ ?_; clear hK K)
  refine wpQE_nil ?_
  refine wpE_seg 2 1 (fuel := 4) (by as_aux_lemma => kernel_rfl) (fun d _ _ _ _ h => by cases d <;> exact h) (by as_aux_lemma => kernel_rfl) (by as_aux_lemma => kernel_rfl) ?_
  simp only [List.drop_succ_cons, List.drop_zero, List.take_succ_cons, List.take_zero]
  iterate 1 (refine wpQE_step (fun K hK => ?_); go_simp; refine hK _ ?_; clear hK K)
  refine wpQE_nil ?_
  clear hla hlb
  refine wpE_step 1 (fuel := 3) rfl (by as_aux_lemma => kernel_rfl) (fun l K hK => ?_)
  go_simp
  go_at_call 31
  refine (hBa.out l.w).mono ?_
  rintro e w6 ⟨v1, rfl, ho1, hb6⟩
  obtain ⟨A1, c1, rfl, hc1, hmc1, hv1⟩ := ho1.form
  refine hK _ _ hb6 ?_
  clear hK K ho1
  have hb56 := l.hb.trans (hb6.mono l.hb.size)
  clear hb6
  replace hB := hide (hB.out.trans (hb56.mono hB.out.size))
  replace hg1 := hide (blk_on hb56 hg1.out)
  replace hg2 := hide (blk_on hb56 hg2.out)
  replace hm2 := hide (hm2.out.below hb56)
  replace hgm := hide (blk_on hb56 hgm.out)
  clear hb56
  replace hv1 := hide hv1
  refine wpE_step 3 (fuel := 2) rfl (by as_aux_lemma => kernel_rfl) (fun l2 K hK => ?_)
  go_simp
  go_at_call 31
  refine (hBm.out l2.w).mono ?_
  rintro e w7 ⟨v2, rfl, ho2, hb7⟩
  obtain ⟨A2, c2, rfl, hc2, hmc2, hv2⟩ := ho2.form
  refine hK _ _ hb7 ?_
  clear hK K ho2
  have hb67 := l2.hb.trans (hb7.mono l2.hb.size)
  clear hb7
  replace hB := hide (hB.out.trans (hb67.mono hB.out.size))
  replace hg1 := hide (blk_on hb67 hg1.out)
  replace hg2 := hide (blk_on hb67 hg2.out)
  replace hm2 := hide (hm2.out.below hb67)
  replace hgm := hide (blk_on hb67 hgm.out)
  replace hv1 := hide (hv1.out.on hb67)
  clear hb67
  replace hv2 := hide hv2
  refine wpE_seg 4 2 (fuel := 0) (by as_aux_lemma => kernel_rfl) (fun d _ _ _ _ h => by cases d <;> exact h) (by as_aux_lemma => kernel_rfl) (by as_aux_lemma => kernel_rfl) ?_
  simp only [List.drop_succ_cons, List.drop_zero, List.take_succ_cons, List.take_zero]
  iterate 2 (refine wpQE_step (fun K hK => ?_); go_simp; refine hK _ ?_; clear hK K)
  refine wpQE_nil ?_
  refine wpE_done (by as_aux_lemma => kernel_rfl) (fun w8 hb8 => ?_) 0
  replace hB := hide (hB.out.trans (hb8.mono hB.out.size))
  replace hg1 := hide (blk_on hb8 hg1.out)
  replace hg2 := hide (blk_on hb8 hg2.out)
  replace hm2 := hide (hm2.out.below hb8)
  replace hgm := hide (blk_on hb8 hgm.out)
  replace hv1 := hide (hv1.out.on hb8)
  replace hv2 := hide (hv2.out.on hb8)
  clear hb8
  rw [hbla] at hc1
  rw [hblm] at hc2
  have hv1' := hv1.out
  have hv2' := hv2.out
  rw [hbla] at hv1'
  rw [hblm] at hv2'
  obtain ⟨b1, o1, rfl, hlt1, hcell1⟩ := ints_ptr hv1' hwp0
  obtain ⟨b2, o2, rfl, hlt2, hcell2⟩ := ints_ptr hv2' hwp0
  clear hv1 hv2 hv1' hv2' hBa hBm
  have hca := blk_cell hg1.out
  have hcb := blk_cell hgm.out
  replace hcell1 := hide hcell1
  replace hcell2 := hide hcell2
  go_wp2_with fail
  refine (hRm'.out w8).mono ?_
  rintro e w9 ⟨rfl, hb9⟩
  have hcell1 : Hid (∀ j x, XA[j]? = some x → w9.cell? ⟨b1, o1 + j, none⟩ = some (.int .i64 x)) := fun j x h => (World.cell?_of_block (hb9.block b1 hlt1)).trans (hcell1.out j x h)
  have hcell2 : Hid (∀ j x, XM[j]? = some x → w9.cell? ⟨b2, o2 + j, none⟩ = some (.int .i64 x)) := fun j x h => (World.cell?_of_block (hb9.block b2 hlt2)).trans (hcell2.out j x h)
  have hlt1 : b1 < w9.heap.size := Nat.lt_of_lt_of_le hlt1 hb9.size
  have hlt2 : b2 < w9.heap.size := Nat.lt_of_lt_of_le hlt2 hb9.size
  replace hB := hide (hB.out.trans (hb9.mono hB.out.size))
  replace hg1 := hide (blk_on hb9 hg1.out)
  replace hg2 := hide (blk_on hb9 hg2.out)
  replace hm2 := hide (hm2.out.below hb9)
  replace hgm := hide (blk_on hb9 hgm.out)
  clear hb9
  clear hca hcb hRm'
  go_wp2_with fail
  go_loopw [10] (fun iv wr => ∃ j : Nat, j ≤ W ∧ iv = .int .i64 (j : Int) ∧ Below w9.heap.size w9 wr) (fun iv _ => W - (intOf iv).toNat)
  case atStart => exact ⟨0, by omega, rfl, Below.refl _ _⟩
  case round =>
    obtain ⟨j, hj, rfl, hbr⟩ := hrel
    by_cases hjW : j < W
    · have i1 : (j : Int) < (W : Int) := by omega
      have i2 : (0 : Int) ≤ (j : Int) := by omega
      have e1 := hcell1.out j _ (hbga.out j hjW)
      have e2 := hcell2.out j _ (hbgm.out j hjW)
      have hmj := hmb.out j hjW
      have hcj := hcn.out j hjW
      have hbsz := hbr.size
      by_cases hjn : (j : Int) < n
      · rw [if_pos (hcj.1 hjn)] at hmj
        rw [hmj] at e2
        obtain ⟨y, hy⟩ : ∃ y, fa j = y := ⟨_, rfl⟩
        rw [hy] at e1 e2
        have l1 := fun l : Later wr => (World.cell?_of_block (l.hb.block b1 (by omega))).trans ((World.cell?_of_block (hbr.block b1 hlt1)).trans e1)
        have l2 := fun l : Later wr => (World.cell?_of_block (l.hb.block b2 (by omega))).trans ((World.cell?_of_block (hbr.block b2 hlt2)).trans e2)
        have t1 : decide ((j : Int) < n) = true := decide_eq_true hjn
        have t2 : decide (n ≤ (j : Int)) = false := by rw [decide_eq_false_iff_not]; omega
        have t3 : ¬ n ≤ (j : Int) := by omega
        clear e1 e2 hcj hmj hy
        replace hbr := hide hbr
        go_upto_region 10 with fail
        refine wp_region_L (by as_aux_lemma => kernel_rfl) ?_
        refine wpE_seg 0 26 (fuel := 0) (by as_aux_lemma => kernel_rfl) (fun d _ _ _ _ h => by cases d <;> exact h) (by as_aux_lemma => kernel_rfl) (by as_aux_lemma => kernel_rfl) ?_
        simp only [List.drop_zero, List.take_succ_cons, List.take_zero]
        iterate 15 (refine wpQE_step (fun K hK => ?_); go_simp; refine hK _ ?_; clear hK K)
        iterate 3 (refine wpQE_step (fun K hK => ?_); go_simp; refine hK _ ?_; clear hK K)
        refine wpQE_val_skip (.bool false) 5 rfl (fun l => rfl) (by as_aux_lemma => kernel_rfl) ?_
        dsimp only [putU, List.take_succ_cons, List.take_zero, List.drop_succ_cons, List.drop_zero, Act.put]
        iterate 2 (refine wpQE_step (fun K hK => ?_); go_simp; refine hK _ ?_; clear hK K)
        refine wpQE_nil ?_
        refine wpE_done (by as_aux_lemma => kernel_rfl) (fun w10 hb10 => ?_) 0
        clear l1 l2
        have hb11 := hbr.out.trans (hb10.mono hbr.out.size)
        clear hb10 hbr
        replace hb11 := hide hb11
        go_wp2_with fail
        exact ⟨⟨j + 1, by omega, by first | rfl | go_num, hb11.out⟩, by simp only [intOf]; omega⟩
      · rw [if_neg (fun h => hjn (hcj.2 h))] at hmj
        rw [hmj] at e2
        have l2 := fun l : Later wr => (World.cell?_of_block (l.hb.block b2 (by omega))).trans ((World.cell?_of_block (hbr.block b2 hlt2)).trans e2)
        have t1 : decide ((j : Int) < n) = false := decide_eq_false hjn
        have t2 : decide (n ≤ (j : Int)) = true := by rw [decide_eq_true_eq]; omega
        have t3 : n ≤ (j : Int) := by omega
        clear e1 e2 hcj hmj
        replace hbr := hide hbr
        go_upto_region 10 with fail
        refine wp_region_L (by as_aux_lemma => kernel_rfl) ?_
        refine wpE_seg 0 26 (fuel := 0) (by as_aux_lemma => kernel_rfl) (fun d _ _ _ _ h => by cases d <;> exact h) (by as_aux_lemma => kernel_rfl) (by as_aux_lemma => kernel_rfl) ?_
        simp only [List.drop_zero, List.take_succ_cons, List.take_zero]
        iterate 3 (refine wpQE_step (fun K hK => ?_); go_simp; refine hK _ ?_; clear hK K)
        refine wpQE_val_skip (.bool false) 9 rfl (fun l => rfl) (by as_aux_lemma => kernel_rfl) ?_
        dsimp only [putU, List.take_succ_cons, List.take_zero, List.drop_succ_cons, List.drop_zero, Act.put]
        iterate 13 (refine wpQE_step (fun K hK => ?_); go_simp; refine hK _ ?_; clear hK K)
        refine wpQE_nil ?_
        refine wpE_done (by as_aux_lemma => kernel_rfl) (fun w10 hb10 => ?_) 0
        clear l2
        have hb11 := hbr.out.trans (hb10.mono hbr.out.size)
        clear hb10 hbr
        replace hb11 := hide hb11
        go_wp2_with fail
        exact ⟨⟨j + 1, by omega, by first | rfl | go_num, hb11.out⟩, by simp only [intOf]; omega⟩
    · obtain rfl : j = W := by omega
      have i1 : ((j : Int) < (j : Int)) = False := by simp
      clear hcell1 hcell2 hlt1 hlt2 hbga hbgm hmb hcn
      replace hB := hide (hB.out.trans (hbr.mono hB.out.size))
      replace hg1 := hide (blk_on hbr hg1.out)
      replace hg2 := hide (blk_on hbr hg2.out)
      replace hm2 := hide (hm2.out.below hbr)
      replace hgm := hide (blk_on hbr hgm.out)
      clear hbr
      have hla := fun l : Later wr => blk_cell (blk_on l.hb hg1.out)
      have hlb := fun l : Later wr => blk_cell (blk_on l.hb hg2.out)
      have q1 := fun l : Later wr => hpR.out l.w
      have q2 := fun l : Later wr => hpr.out l.w
      have q3 := fun l : Later wr => hH1.out l.w
      have q4 := fun l : Later wr => hH2'.out l.w
      have q5 := fun l : Later wr => hA.out l.w (hm2.out.below l.hb)
      replace q1 := hide q1
      replace q2 := hide q2
      replace q3 := hide q3
      replace q4 := hide q4
      replace q5 := hide q5
      replace hjW := hide hjW
      go_upto_region 12 with fail
      refine wp_region_L (by as_aux_lemma => kernel_rfl) ?_
      refine wpE_seg 0 18 (fuel := 0) (by as_aux_lemma => kernel_rfl) (fun d _ _ _ _ h => by cases d <;> exact h) (by as_aux_lemma => kernel_rfl) (by as_aux_lemma => kernel_rfl) ?_
      simp only [List.drop_zero, List.take_succ_cons, List.take_zero]
      iterate 1 (refine wpQE_step (fun K hK => ?_); go_simp; refine hK _ ?_; clear hK K)
      (refine wpQE_step (fun K hK => ?_); go_simp; apply Exists.intro; refine ⟨fun l => ?_, hK _ ?_⟩; (go_at_call 32; refine (q1.out l).mono ?_; rintro e w' ⟨rfl, hb⟩; exact ⟨rfl, hb⟩); clear hK K)
      iterate 1 (refine wpQE_step (fun K hK => ?_); go_simp; refine hK _ ?_; clear hK K)
      (refine wpQE_step (fun K hK => ?_); go_simp; apply Exists.intro; refine ⟨fun l => ?_, hK _ ?_⟩; (go_at_call 25; refine (q2.out l).mono ?_; rintro e w' ⟨rfl, hb⟩; exact ⟨rfl, hb⟩); clear hK K)
      iterate 4 (refine wpQE_step (fun K hK => ?_); go_simp; refine hK _ ?_; clear hK K)
      (refine wpQE_step (fun K hK => ?_); go_simp; apply Exists.intro; refine ⟨fun l => ?_, hK _ ?_⟩; (go_at_call 33; refine (q3.out l).mono ?_; rintro e w' ⟨rfl, hb⟩; exact ⟨rfl, hb⟩); clear hK K)
      iterate 2 (refine wpQE_step (fun K hK => ?_); go_simp; refine hK _ ?_; clear hK K)
      (refine wpQE_step (fun K hK => ?_); go_simp; apply Exists.intro; refine ⟨fun l => ?_, hK _ ?_⟩; (go_at_call 34; refine (q4.out l).mono ?_; rintro e w' ⟨rfl, hb⟩; exact ⟨rfl, hb⟩); clear hK K)
      iterate 3 (refine wpQE_step (fun K hK => ?_); go_simp; refine hK _ ?_; clear hK K)
      (refine wpQE_step (fun K hK => ?_); go_simp; apply Exists.intro; refine ⟨fun l => ?_, hK _ ?_⟩; (go_at_call 29; refine (q5.out l).mono ?_; rintro e w' ⟨rfl, hb⟩; exact ⟨rfl, hb⟩); clear hK K)
      iterate 2 (refine wpQE_step (fun K hK => ?_); go_simp; refine hK _ ?_; clear hK K)
      refine wpQE_nil ?_
      refine wpE_done (by as_aux_lemma => kernel_rfl) (fun w10 hb10 => ?_) 0
      clear hla hlb
      replace hB := hide (hB.out.trans (hb10.mono hB.out.size))
      replace hg1 := hide (blk_on hb10 hg1.out)
      replace hg2 := hide (blk_on hb10 hg2.out)
      replace hm2 := hide (hm2.out.below hb10)
      replace hgm := hide (blk_on hb10 hgm.out)
      clear hb10
      go_wp2_with fail
      go_ret
      exact ⟨rfl, hB.out⟩
theorem pmasks_row (v : Bool) (h l n : Int) (v' : Bool) (h' l' i : Int) (w : World) (h1 : (Lit.int .u64 h).wf = true) (h2 : (Lit.int .u64 l).wf = true) (_ : (Lit.int .i64 n).wf = true) (h3 : (Lit.int .u64 h').wf = true) (h4 : (Lit.int .u64 l').wf = true) (_ : (Lit.int .i64 i).wf = true) (hm : MaxAt w) :
    Calls Tryd.prog 8 #[.agg #[.bool v, .int .u64 h, .int .u64 l], .int .i64 n, .agg #[.bool v', .int .u64 h', .int .u64 l', .int .i64 i]] w fun e w' => e = .returned (.bool true) ∧ Below w.heap.size w w' := by
  obtain ⟨h, rfl, h1'⟩ := u64_nat h1
  obtain ⟨l, rfl, h2'⟩ := u64_nat h2
  obtain ⟨h', rfl, h3'⟩ := u64_nat h3
  obtain ⟨l', rfl, h4'⟩ := u64_nat h4
  exact pmasks_walk ⟨v, h, l⟩ ⟨h1', h2'⟩ n ⟨v', h', l'⟩ ⟨h3', h4'⟩ i w hm
end Addr05
end Go.Proofs.YtccmbnaakdffaaaDoor
