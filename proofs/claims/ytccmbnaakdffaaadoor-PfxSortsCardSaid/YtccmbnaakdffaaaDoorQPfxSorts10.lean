/- pfx: cut, Mask: an address with its last bits 0. Conditions: numbers of 64 bits. -/
import Derived.Test.YtccmbnaakdffaaaDoorQPfxSorts9
import Derived.Test.YtccmbnaakdffaaaDoorQPfxSorts7
import Derived.Test.YtccmbnaakdffaaaDoorQPfxSorts2
import Derived.Test.YtccmbnaakdffaaaDoorQPfxSorts8
namespace Go.Proofs.YtccmbnaakdffaaaDoor
open Go.RowKit Go.ChangeShapes Go.WideShapes Go.ChangeAt Go.Deep
namespace Addr05
theorem high_eq (k : Nat) (hk : k ≤ 64) : 18446744073709551616 - 2 ^ k = (2 ^ (64 - k) - 1) * 2 ^ k := by
  rw [Nat.sub_mul, Nat.one_mul, ← Nat.pow_add, show 64 - k + k = 64 by omega]
theorem and_high (a k : Nat) (ha : a < 18446744073709551616) (hk : k ≤ 64) : a &&& (18446744073709551616 - 2 ^ k) = mkB a k := by
  apply Nat.eq_of_testBit_eq
  intro j
  rw [Nat.testBit_and, testBit_mkB, high_eq k hk, ← Nat.shiftLeft_eq, Nat.testBit_shiftLeft, Nat.testBit_two_pow_sub_one]
  by_cases hkj : k ≤ j
  · by_cases hj : j < 64
    · simp [hkj, show j - k < 64 - k by omega]
    · rw [Nat.testBit_lt_two_pow (Nat.lt_of_lt_of_le ha (show 2 ^ 64 ≤ 2 ^ j from Nat.pow_le_pow_right (by omega) (by omega)))]
      simp
  · simp [hkj]
theorem u64_high (a k : Nat) (ha : a < 18446744073709551616) (hk : k ≤ 64) : bits .and .u64 (a : Int) ((18446744073709551616 - 2 ^ k : Nat) : Int) = ((mkB a k : Nat) : Int) := by
  have hp : 0 < 2 ^ k := Nat.two_pow_pos k
  rw [(bits_nat .u64 64 (by decide) wrapsu64 a (18446744073709551616 - 2 ^ k) ha (by omega)).1, and_high a k ha hk]
set_option maxRecDepth 20000 in
theorem pcut_any (b : Nat) (hb : b ≤ 64) (w : World) :
    Calls Tryd.prog 54 #[.int .i64 (b : Int)] w fun e w' => e = .returned (.int .u64 ((18446744073709551616 - 2 ^ (64 - b) : Nat) : Int)) ∧ w' = w := by
  by_cases h0 : b = 0
  · subst h0
    go_enter Tryd.func54, Tryd.ntmps54
    go_wp2_with fail
    go_ret
    exact ⟨rfl, rfl⟩
  · have t0 : ((b : Int) == 0) = false := by rw [beq_eq_false_iff_ne]; omega
    obtain ⟨s, hs⟩ : ∃ s, 64 - b = s := ⟨_, rfl⟩
    have ws : IntKind.i64.wrap (64 - (b : Int)) = (s : Int) := by rw [wraps62 _ (by omega) (by omega)]; omega
    have i1 : (0 : Int) ≤ (s : Int) := by omega
    have min64 : min s 64 = s := by omega
    have hw : IntKind.u64.wrap (18446744073709551615 * 2 ^ s) = ((18446744073709551616 - 2 ^ s : Nat) : Int) := by
      have h1 : 0 < 2 ^ s := Nat.two_pow_pos s
      have h2 : 2 ^ s ≤ 2 ^ 64 := Nat.pow_le_pow_right (by omega) (by omega)
      have e : ((2 : Int) ^ s) = ((2 ^ s : Nat) : Int) := by push_cast; rfl
      rw [IntKind.wrap_u64, e]
      obtain ⟨P, hP⟩ : ∃ P, 2 ^ s = P := ⟨_, rfl⟩
      rw [hP] at h1 h2 ⊢
      omega
    rw [hs, ← hw]
    replace hs := hide hs
    replace h0 := hide h0
    replace hw := hide hw
    go_enter Tryd.func54, Tryd.ntmps54
    go_wp2_with fail
    go_ret
    exact ⟨rfl, rfl⟩
def clampN (a : Adr) (i : Int) : Nat := (min (max i 0) (a.w : Int)).toNat
theorem pcut_bel (b : Nat) (hb : b ≤ 64) (w : World) :
    Calls Tryd.prog 54 #[.int .i64 (b : Int)] w fun e w' => e = .returned (.int .u64 ((18446744073709551616 - 2 ^ (64 - b) : Nat) : Int)) ∧ Below w.heap.size w w' :=
  (pcut_any b hb w).mono fun _ _ h => ⟨h.1, h.2 ▸ Below.refl _ _⟩
set_option maxRecDepth 20000 in
set_option maxHeartbeats 8000000 in
theorem Mask_any (a : Adr) (ho : a.ok) (i : Int) (w : World) :
    Calls Tryd.prog 30 #[.agg #[.bool a.v6, .int .u64 (a.hi : Int), .int .u64 (a.lo : Int)], .int .i64 i] w fun e w' => e = .returned (.agg (a.mask (clampN a i)).arr) ∧ Below w.heap.size w w' := by
  obtain ⟨v, hi, lo⟩ := a
  obtain ⟨hhi, hlo⟩ := ho
  dsimp only at hhi hlo ⊢
  obtain ⟨w1, hw1⟩ : ∃ w1, w.alloc (.cells #[.bool v, .int .u64 (hi : Int), .int .u64 (lo : Int)] 24) = w1 := ⟨_, rfl⟩
  have hg1 : w1.heap[w.heap.size]? = some (.cells #[.bool v, .int .u64 (hi : Int), .int .u64 (lo : Int)] 24 (0, 0)) := hw1 ▸ blk_new _ _ _
  have hz1 : w1.heap.size = w.heap.size + 1 := by rw [← hw1]; simp
  have hB1 : Below w.heap.size w w1 := hw1 ▸ (Below.refl _ _).alloc (Nat.le_refl _) _
  obtain ⟨w2, hw2⟩ : ∃ w2, w1.alloc (.cells #[.bool false, .int .u64 0, .int .u64 0] 24) = w2 := ⟨_, rfl⟩
  have hg2 : w2.heap[w1.heap.size]? = some (.cells #[.bool false, .int .u64 0, .int .u64 0] 24 (0, 0)) := hw2 ▸ blk_new _ _ _
  have hB2' : Below w1.heap.size w1 w2 := hw2 ▸ (Below.refl _ _).alloc (Nat.le_refl _) _
  have hz2 : w1.heap.size < w2.heap.size := by rw [← hw2]; simp
  rw [hz1] at hg2
  have hg1 := blk_below hB2' (by omega) hg1
  have hB2 := hB1.trans (hB2'.mono hB1.size)
  clear hB1 hB2'
  have hz : w.heap.size + 1 < w2.heap.size := by omega
  obtain ⟨m, hm⟩ : ∃ m : Nat, max i 0 = (m : Int) := ⟨(max i 0).toNat, by omega⟩
  have hcl : clampN ⟨v, hi, lo⟩ i = min m (Adr.w ⟨v, hi, lo⟩) := by unfold clampN; rw [hm]; omega
  rw [hcl]
  clear hcl
  cases v
  · obtain ⟨B, hBm⟩ : ∃ B, min m 32 = B := ⟨_, rfl⟩
    have hBi : min (m : Int) 32 = (B : Int) := by omega
    have hres : (Adr.mask ⟨false, hi, lo⟩ (min m (Adr.w ⟨false, hi, lo⟩))) = ⟨false, hi, mkB lo (32 - B)⟩ := by
      show Adr.mask ⟨false, hi, lo⟩ (min m 32) = _
      rw [hBm]; rfl
    rw [hres]
    unfold Adr.arr
    dsimp only
    obtain ⟨c, hc⟩ : ∃ c, B + 32 = c := ⟨_, rfl⟩
    have wc' : IntKind.i64.wrap ((B : Int) + 32) = (c : Int) := by rw [wraps62 _ (by omega) (by omega)]; omega
    have hbits := fun w => Bits_any false (hi : Int) (lo : Int) w
    have q1 := fun l => pcut_bel c (by omega) l
    have hand := u64_high lo (64 - c) hlo (by omega)
    rw [show 64 - c = 32 - B by omega] at hand
    have e1 : ∀ w : World, Calls Tryd.prog 54 #[.int .i64 (c : Int)] w fun e w' => e = .returned (.int .u64 ((18446744073709551616 - 2 ^ (32 - B) : Nat) : Int)) ∧ Below w.heap.size w w' := by
      intro w
      have := q1 w
      rwa [show 64 - c = 32 - B by omega] at this
    obtain ⟨H, hH⟩ : ∃ H, 18446744073709551616 - 2 ^ (32 - B) = H := ⟨_, rfl⟩
    obtain ⟨R, hR⟩ : ∃ R, mkB lo (32 - B) = R := ⟨_, rfl⟩
    rw [hH] at hand e1
    rw [hR] at hand ⊢
    have hcg := blk_cell hg1
    clear q1 hres
    replace hg1 := hide hg1
    replace hg2 := hide hg2
    replace hB2 := hide hB2
    replace hbits := hide hbits
    replace e1 := hide e1
    replace hH := hide hH
    replace hR := hide hR
    replace hBm := hide hBm
    replace hc := hide hc
    go_enter Tryd.func30, Tryd.ntmps30
    go_wp2_with fail
    clear hw1 hw2
    refine (hbits.out w2).mono ?_
    rintro e w3 ⟨rfl, hb3⟩
    have hg13 := blk_below hb3 (by omega) hg1.out
    have hg23 := blk_below hb3 hz hg2.out
    have hB3 := hB2.out.trans (hb3.mono hB2.out.size)
    have hz3 := hb3.size
    clear hb3 hcg hg1 hg2 hB2 hbits
    have hcg := blk_cell hg13
    replace hg13 := hide hg13
    replace hg23 := hide hg23
    replace hB3 := hide hB3
    simp only [Bool.false_eq_true, if_false]
    go_upto_region 4 with fail
    have hcl := fun l : Later w3 => blk_cell (blk_below l.hb (by omega) hg13.out)
    have q := fun l : Later w3 => e1.out l.w
    clear hcg
    refine wp_region_L (by as_aux_lemma => kernel_rfl) ?_
    refine wpE_seg 0 3 (fuel := 4) (by as_aux_lemma => kernel_rfl) (fun d _ _ _ _ h => by cases d <;> exact h) (by as_aux_lemma => kernel_rfl) (by as_aux_lemma => kernel_rfl) ?_
    simp only [List.drop_zero, List.take_succ_cons, List.take_zero]
    iterate 3 (refine wpQE_step (fun K hK => ?_); go_simp; refine hK _ ?_; clear hK K)
    refine wpQE_nil ?_
    refine wpE_seg 3 2 (fuel := 2) (by as_aux_lemma => kernel_rfl) (fun d _ _ _ _ h => by cases d <;> exact h) (by as_aux_lemma => kernel_rfl) (by as_aux_lemma => kernel_rfl) ?_
    simp only [List.drop_succ_cons, List.drop_zero, List.take_succ_cons, List.take_zero]
    (refine wpQE_step (fun K hK => ?_); go_simp; apply Exists.intro; refine ⟨fun l => ?_, hK _ ?_⟩; (go_at_call 54; refine (q l).mono ?_; rintro e w' ⟨rfl, hb⟩; exact ⟨rfl, hb⟩); clear hK K)
    iterate 1 (refine wpQE_step (fun K hK => ?_); go_simp; refine hK _ ?_; clear hK K)
    refine wpQE_nil ?_
    clear hcl q
    refine wpE_end (by as_aux_lemma => kernel_rfl) (fun l2 => ?_)
    have hg14 := blk_below l2.hb (by omega) hg13.out
    have hg24 := blk_below l2.hb (by omega) hg23.out
    have hB4 := hB3.out.trans (l2.hb.mono hB3.out.size)
    have hz4 := l2.hb.size
    obtain ⟨w9, e9, hg9, g9⟩ := store_cell hg14 2 (.int .u64 (R : Int))
    have hg9 : w9.heap[w.heap.size]? = some (.cells #[.bool false, .int .u64 (hi : Int), .int .u64 (R : Int)] 24 (0, 0)) := hg9
    have c9 := blk_cell hg14 2
    have f9 := blk_free hg14 2
    replace hg9 := hide hg9
    replace g9 := hide g9
    replace hg24 := hide hg24
    replace hB4 := hide hB4
    replace hg14 := hide hg14
    refine wpT_step 5 rfl (by as_aux_lemma => kernel_rfl) (fun K hK => ?_)
    go_simp
    refine hK _ _ ?_
    clear hK K
    refine wpT_step 6 rfl (by as_aux_lemma => kernel_rfl) (fun K hK => ?_)
    go_simp
    refine hK _ _ ?_
    clear hK K
    refine wpT_done (by as_aux_lemma => kernel_rfl) ?_ 0
    have hr9 := grown_other g9.out (by omega) (by omega) hg24.out
    have hB9 : Below w.heap.size w w9 := hB4.out.trans (below_grown g9.out (by omega) (Nat.le_refl _))
    have hz9 := g9.out.size
    clear e9 c9 f9 g9 hg24 hB4 hg13 hg23 hB3 hg14
    replace hr9 := hide hr9
    replace hB9 := hide hB9
    go_upto_region 5 with fail
    apply wp_region_lit
    refine wpl_ld rfl 24 (.tmp 2) rfl w.heap.size rfl _ _ hg9.out Tryd.underlying24 rfl (by kernel_rfl) ?_
    refine wpl_st rfl 24 (.tmp 4) (.tmp 21) rfl (w.heap.size + 1) 0 rfl (#[.bool false, .int .u64 (hi : Int), .int .u64 (R : Int)]) rfl hr9.out (by simp) (by kernel_rfl) (adr_one _ _ _) fun w9 hg9 g9 => ?_
    rw [putA_whole _ _ (by rfl)] at hg9
    have hb9 : Below (w.heap.size) w w9 := (hB9.out).trans (below_grown g9 (by have := (hB9.out).size; omega) (by omega))
    have hld : (loadVar 24 ⟨w.heap.size + 1, 0, none⟩).run Tryd.prog w9 = .ok (.agg (#[.bool false, .int .u64 (hi : Int), .int .u64 (R : Int)])) w9 := by
      simpa using run_loadVar_mid w9 (w.heap.size + 1) 0 24 (#[.bool false, .int .u64 (hi : Int), .int .u64 (R : Int)]).toList _ (blk_range hg9) Tryd.underlying24 rfl (by kernel_rfl)
    clear hg9 g9
    replace hld := hide hld
    replace hb9 := hide hb9
    refine wpList_nil ?_
    go_simp
    go_wp2_with fail
    exact bodyPost_ret (v := .agg #[.bool false, .int .u64 (hi : Int), .int .u64 (R : Int)]) (by simp [results, Tryd.results30, asAddr, hld.out, Result.andThen]) rfl ⟨rfl, hb9.out⟩
  · obtain ⟨B, hBm⟩ : ∃ B, min m 128 = B := ⟨_, rfl⟩
    have hBi : min (m : Int) 128 = (B : Int) := by omega
    have hres : (Adr.mask ⟨true, hi, lo⟩ (min m (Adr.w ⟨true, hi, lo⟩))) = ⟨true, mkB hi (64 - min B 64), mkB lo (64 - (B - 64))⟩ := by
      show Adr.mask ⟨true, hi, lo⟩ (min m 128) = _
      rw [hBm]; rfl
    rw [hres]
    unfold Adr.arr
    dsimp only
    obtain ⟨c1, hc1⟩ : ∃ c, min B 64 = c := ⟨_, rfl⟩
    obtain ⟨c2, hc2⟩ : ∃ c, B - 64 = c := ⟨_, rfl⟩
    have wm1 : min (B : Int) 64 = (c1 : Int) := by omega
    have ws2 : IntKind.i64.wrap ((B : Int) - 64) = (B : Int) - 64 := by rw [IntKind.wrap_i64]; omega
    have wm2 : max ((B : Int) - 64) 0 = (c2 : Int) := by omega
    rw [hc1, hc2]
    have hbits := fun w => Bits_any true (hi : Int) (lo : Int) w
    have q1 := fun w => pcut_bel c1 (by omega) w
    have q2 := fun w => pcut_bel c2 (by omega) w
    have hand1 := u64_high hi (64 - c1) hhi (by omega)
    have hand2 := u64_high lo (64 - c2) hlo (by omega)
    obtain ⟨H1, hH1⟩ : ∃ H, 18446744073709551616 - 2 ^ (64 - c1) = H := ⟨_, rfl⟩
    obtain ⟨H2, hH2⟩ : ∃ H, 18446744073709551616 - 2 ^ (64 - c2) = H := ⟨_, rfl⟩
    obtain ⟨R1, hR1⟩ : ∃ R, mkB hi (64 - c1) = R := ⟨_, rfl⟩
    obtain ⟨R2, hR2⟩ : ∃ R, mkB lo (64 - c2) = R := ⟨_, rfl⟩
    rw [hH1] at hand1 q1
    rw [hH2] at hand2 q2
    rw [hR1] at hand1 ⊢
    rw [hR2] at hand2 ⊢
    have hcg := blk_cell hg1
    clear hres
    replace hg1 := hide hg1
    replace hg2 := hide hg2
    replace hB2 := hide hB2
    replace hbits := hide hbits
    replace q1 := hide q1
    replace q2 := hide q2
    replace hH1 := hide hH1
    replace hH2 := hide hH2
    replace hR1 := hide hR1
    replace hR2 := hide hR2
    replace hBm := hide hBm
    replace hc1 := hide hc1
    replace hc2 := hide hc2
    go_enter Tryd.func30, Tryd.ntmps30
    go_wp2_with fail
    clear hw1 hw2
    refine (hbits.out w2).mono ?_
    rintro e w3 ⟨rfl, hb3⟩
    have hg13 := blk_below hb3 (by omega) hg1.out
    have hg23 := blk_below hb3 hz hg2.out
    have hB3 := hB2.out.trans (hb3.mono hB2.out.size)
    have hz3 := hb3.size
    clear hb3 hcg hg1 hg2 hB2 hbits
    have hcg := blk_cell hg13
    replace hg13 := hide hg13
    replace hg23 := hide hg23
    replace hB3 := hide hB3
    simp only [if_true]
    go_upto_region 6 with fail
    have hcl := fun l : Later w3 => blk_cell (blk_below l.hb (by omega) hg13.out)
    have q := fun l : Later w3 => q1.out l.w
    clear hcg
    refine wp_region_L (by as_aux_lemma => kernel_rfl) ?_
    refine wpE_seg 0 4 (fuel := 4) (by as_aux_lemma => kernel_rfl) (fun d _ _ _ _ h => by cases d <;> exact h) (by as_aux_lemma => kernel_rfl) (by as_aux_lemma => kernel_rfl) ?_
    simp only [List.drop_zero, List.take_succ_cons, List.take_zero]
    iterate 4 (refine wpQE_step (fun K hK => ?_); go_simp; refine hK _ ?_; clear hK K)
    refine wpQE_nil ?_
    refine wpE_seg 4 2 (fuel := 2) (by as_aux_lemma => kernel_rfl) (fun d _ _ _ _ h => by cases d <;> exact h) (by as_aux_lemma => kernel_rfl) (by as_aux_lemma => kernel_rfl) ?_
    simp only [List.drop_succ_cons, List.drop_zero, List.take_succ_cons, List.take_zero]
    (refine wpQE_step (fun K hK => ?_); go_simp; apply Exists.intro; refine ⟨fun l => ?_, hK _ ?_⟩; (go_at_call 54; refine (q l).mono ?_; rintro e w' ⟨rfl, hb⟩; exact ⟨rfl, hb⟩); clear hK K)
    iterate 1 (refine wpQE_step (fun K hK => ?_); go_simp; refine hK _ ?_; clear hK K)
    refine wpQE_nil ?_
    clear hcl q
    refine wpE_end (by as_aux_lemma => kernel_rfl) (fun l2 => ?_)
    have hg14 := blk_below l2.hb (by omega) hg13.out
    have hg24 := blk_below l2.hb (by omega) hg23.out
    have hB4 := hB3.out.trans (l2.hb.mono hB3.out.size)
    have hz4 := l2.hb.size
    obtain ⟨w9, e9, hg9, g9⟩ := store_cell hg14 1 (.int .u64 (R1 : Int))
    have hg9 : w9.heap[w.heap.size]? = some (.cells #[.bool true, .int .u64 (R1 : Int), .int .u64 (lo : Int)] 24 (0, 0)) := hg9
    have c9 := blk_cell hg14 1
    have f9 := blk_free hg14 1
    replace hg9 := hide hg9
    replace g9 := hide g9
    replace hg24 := hide hg24
    replace hB4 := hide hB4
    replace hg14 := hide hg14
    refine wpT_step 6 rfl (by as_aux_lemma => kernel_rfl) (fun K hK => ?_)
    go_simp
    refine hK _ _ ?_
    clear hK K
    refine wpT_step 7 rfl (by as_aux_lemma => kernel_rfl) (fun K hK => ?_)
    go_simp
    refine hK _ _ ?_
    clear hK K
    refine wpT_done (by as_aux_lemma => kernel_rfl) ?_ 0
    have hr9 := grown_other g9.out (by omega) (by omega) hg24.out
    have hB9 : Below w.heap.size w w9 := hB4.out.trans (below_grown g9.out (by omega) (Nat.le_refl _))
    have hz9 := g9.out.size
    clear e9 c9 f9 g9 hg24 hB4 hg13 hg23 hB3 hg14
    replace hr9 := hide hr9
    replace hB9 := hide hB9
    go_upto_region 7 with fail
    have hcl := fun l : Later w9 => blk_cell (blk_below l.hb (by omega) hg9.out)
    have q := fun l : Later w9 => q2.out l.w
    refine wp_region_L (by as_aux_lemma => kernel_rfl) ?_
    refine wpE_seg 0 5 (fuel := 4) (by as_aux_lemma => kernel_rfl) (fun d _ _ _ _ h => by cases d <;> exact h) (by as_aux_lemma => kernel_rfl) (by as_aux_lemma => kernel_rfl) ?_
    simp only [List.drop_zero, List.take_succ_cons, List.take_zero]
    iterate 5 (refine wpQE_step (fun K hK => ?_); go_simp; refine hK _ ?_; clear hK K)
    refine wpQE_nil ?_
    refine wpE_seg 5 2 (fuel := 2) (by as_aux_lemma => kernel_rfl) (fun d _ _ _ _ h => by cases d <;> exact h) (by as_aux_lemma => kernel_rfl) (by as_aux_lemma => kernel_rfl) ?_
    simp only [List.drop_succ_cons, List.drop_zero, List.take_succ_cons, List.take_zero]
    (refine wpQE_step (fun K hK => ?_); go_simp; apply Exists.intro; refine ⟨fun l => ?_, hK _ ?_⟩; (go_at_call 54; refine (q l).mono ?_; rintro e w' ⟨rfl, hb⟩; exact ⟨rfl, hb⟩); clear hK K)
    iterate 1 (refine wpQE_step (fun K hK => ?_); go_simp; refine hK _ ?_; clear hK K)
    refine wpQE_nil ?_
    clear hcl q
    refine wpE_end (by as_aux_lemma => kernel_rfl) (fun l3 => ?_)
    have hg15 := blk_below l3.hb (by omega) hg9.out
    have hg25 := blk_below l3.hb (by omega) hr9.out
    have hB5 := hB9.out.trans (l3.hb.mono hB9.out.size)
    have hz5 := l3.hb.size
    obtain ⟨w10, e10, hg10, g10⟩ := store_cell hg15 2 (.int .u64 (R2 : Int))
    have hg10 : w10.heap[w.heap.size]? = some (.cells #[.bool true, .int .u64 (R1 : Int), .int .u64 (R2 : Int)] 24 (0, 0)) := hg10
    have c10 := blk_cell hg15 2
    have f10 := blk_free hg15 2
    replace hg10 := hide hg10
    replace g10 := hide g10
    replace hg25 := hide hg25
    replace hB5 := hide hB5
    replace hg15 := hide hg15
    refine wpT_step 7 rfl (by as_aux_lemma => kernel_rfl) (fun K hK => ?_)
    go_simp
    refine hK _ _ ?_
    clear hK K
    refine wpT_step 8 rfl (by as_aux_lemma => kernel_rfl) (fun K hK => ?_)
    go_simp
    refine hK _ _ ?_
    clear hK K
    refine wpT_done (by as_aux_lemma => kernel_rfl) ?_ 0
    have hr10 := grown_other g10.out (by omega) (by omega) hg25.out
    have hB10 : Below w.heap.size w w10 := hB5.out.trans (below_grown g10.out (by omega) (Nat.le_refl _))
    clear e10 c10 f10 g10 hg25 hB5 hr9 hB9 hg9 hg15
    replace hr10 := hide hr10
    replace hB10 := hide hB10
    go_upto_region 8 with fail
    apply wp_region_lit
    refine wpl_ld rfl 24 (.tmp 2) rfl w.heap.size rfl _ _ hg10.out Tryd.underlying24 rfl (by kernel_rfl) ?_
    refine wpl_st rfl 24 (.tmp 4) (.tmp 37) rfl (w.heap.size + 1) 0 rfl (#[.bool true, .int .u64 (R1 : Int), .int .u64 (R2 : Int)]) rfl hr10.out (by simp) (by kernel_rfl) (adr_one _ _ _) fun w9 hg9 g9 => ?_
    rw [putA_whole _ _ (by rfl)] at hg9
    have hb9 : Below (w.heap.size) w w9 := (hB10.out).trans (below_grown g9 (by have := (hB10.out).size; omega) (by omega))
    have hld : (loadVar 24 ⟨w.heap.size + 1, 0, none⟩).run Tryd.prog w9 = .ok (.agg (#[.bool true, .int .u64 (R1 : Int), .int .u64 (R2 : Int)])) w9 := by
      simpa using run_loadVar_mid w9 (w.heap.size + 1) 0 24 (#[.bool true, .int .u64 (R1 : Int), .int .u64 (R2 : Int)]).toList _ (blk_range hg9) Tryd.underlying24 rfl (by kernel_rfl)
    clear hg9 g9
    replace hld := hide hld
    replace hb9 := hide hb9
    refine wpList_nil ?_
    go_simp
    go_wp2_with fail
    exact bodyPost_ret (v := .agg #[.bool true, .int .u64 (R1 : Int), .int .u64 (R2 : Int)]) (by simp [results, Tryd.results30, asAddr, hld.out, Result.andThen]) rfl ⟨rfl, hb9.out⟩
end Addr05
end Go.Proofs.YtccmbnaakdffaaaDoor
/- addr: which addresses may be, as the code and the law say; the law's awake. Condition: the cell of bytealg.MaxLen. -/
namespace Go.Proofs.YtccmbnaakdffaaaDoor
open Go.RowKit Go.ChangeShapes Go.WideShapes Go.ChangeAt Go.Deep
namespace Addr05
def rightB (v6 : Bool) (hi lo : Nat) : Bool := v6 || (decide (hi = 0) && decide (lo < 4294967296))
theorem rightB_iff (a : Adr) : rightB a.v6 a.hi a.lo = true ↔ a.right := by
  unfold rightB Adr.right
  simp
set_option maxRecDepth 20000 in
theorem Right_any (v6 : Bool) (hi lo : Nat) (w : World) :
    Calls Tryd.prog 16 #[.agg #[.bool v6, .int .u64 (hi : Int), .int .u64 (lo : Int)]] w fun e w' => e = .returned (.bool (rightB v6 hi lo)) ∧ Below w.heap.size w w' := by
  have t1 : ((hi : Int) == 0) = decide (hi = 0) := by rw [Bool.eq_iff_iff]; simp
  have t2 : decide ((lo : Int) < 4294967296) = decide (lo < 4294967296) := by rw [Bool.eq_iff_iff]; simp; omega
  unfold rightB
  obtain ⟨b1, hb1⟩ : ∃ b, decide (hi = 0) = b := ⟨_, rfl⟩
  obtain ⟨b2, hb2⟩ : ∃ b, decide (lo < 4294967296) = b := ⟨_, rfl⟩
  rw [hb1] at t1 ⊢
  rw [hb2] at t2 ⊢
  clear hb1 hb2
  cases v6
  · cases b1
    · go_enter Tryd.func16, Tryd.ntmps16
      go_wp2_with fail
      go_ret
      exact ⟨rfl, (Below.refl _ _).alloc (Nat.le_refl _) _⟩
    · go_enter Tryd.func16, Tryd.ntmps16
      go_wp2_with fail
      go_ret
      exact ⟨rfl, (Below.refl _ _).alloc (Nat.le_refl _) _⟩
  · go_enter Tryd.func16, Tryd.ntmps16
    go_wp2_with fail
    go_ret
    exact ⟨rfl, (Below.refl _ _).alloc (Nat.le_refl _) _⟩
set_option maxRecDepth 20000 in
theorem right_any (v6 : Bool) (hi lo : Nat) (w : World) :
    Calls Tryd.prog 12 #[.agg #[.bool v6, .int .u64 (hi : Int), .int .u64 (lo : Int)]] w fun e w' => e = .returned (.bool (rightB v6 hi lo)) ∧ Below w.heap.size w w' := by
  have t1 : ((hi : Int) == 0) = decide (hi = 0) := by rw [Bool.eq_iff_iff]; simp
  have t2 : decide ((lo : Int) < 4294967296) = decide (lo < 4294967296) := by rw [Bool.eq_iff_iff]; simp; omega
  unfold rightB
  obtain ⟨b1, hb1⟩ : ∃ b, decide (hi = 0) = b := ⟨_, rfl⟩
  obtain ⟨b2, hb2⟩ : ∃ b, decide (lo < 4294967296) = b := ⟨_, rfl⟩
  rw [hb1] at t1 ⊢
  rw [hb2] at t2 ⊢
  clear hb1 hb2
  cases v6
  · cases b1
    · go_enter Tryd.func12, Tryd.ntmps12
      go_wp2_with fail
      go_ret
      exact ⟨rfl, (Below.refl _ _).alloc (Nat.le_refl _) _⟩
    · go_enter Tryd.func12, Tryd.ntmps12
      go_wp2_with fail
      go_ret
      exact ⟨rfl, (Below.refl _ _).alloc (Nat.le_refl _) _⟩
  · go_enter Tryd.func12, Tryd.ntmps12
    go_wp2_with fail
    go_ret
    exact ⟨rfl, (Below.refl _ _).alloc (Nat.le_refl _) _⟩
theorem parse1 (w : World) (hm : MaxAt w) : Calls Tryd.prog 11 #[.string ⟨#[58, 58, 49]⟩] w fun e w' => e = .returned (.tuple #[.agg #[.bool true, .int .u64 0, .int .u64 1], .int .i64 0]) ∧ Below w.heap.size w w' := by
  have h := Parse_any [58, 58, 49] (by decide) w hm
  rw [show parseF [58, 58, 49] = some ⟨true, 0, 1⟩ by kernel_rfl] at h
  exact h
theorem parse2 (w : World) (hm : MaxAt w) : Calls Tryd.prog 11 #[.string ⟨#[48, 58, 48, 58, 58, 49]⟩] w fun e w' => e = .returned (.tuple #[.agg #[.bool false, .int .u64 0, .int .u64 0], .int .i64 18]) ∧ Below w.heap.size w w' := by
  have h := Parse_any [48, 58, 48, 58, 58, 49] (by decide) w hm
  rw [show parseF [48, 58, 48, 58, 58, 49] = none by kernel_rfl] at h
  exact h
set_option maxRecDepth 20000 in
set_option maxHeartbeats 8000000 in
theorem awake_any (w : World) (hm : MaxAt w) : Calls Tryd.prog 14 #[] w fun e w' => e = .returned (.bool true) ∧ Below w.heap.size w w' := by
  have h1 := parse1 w hm
  have h2 := parse2
  replace h1 := hide h1
  replace h2 := hide h2
  replace hm := hide hm
  go_enter Tryd.func14, Tryd.ntmps14
  go_upto_region 1 with fail
  apply wp_region_lit
  refine wpList_plain rfl fun K hK => ?_
  go_simp
  refine (h1.out).mono ?_
  rintro e w1 ⟨rfl, hb1⟩
  have hm1 := hm.out.below hb1
  replace hb1 := hide hb1
  replace hm1 := hide hm1
  go_simp
  refine hK _ _ ?_
  clear hK K
  iterate 3 (refine wpList_plain rfl fun K hK => ?_; go_simp; refine hK _ _ ?_; clear hK K)
  refine wpl_new rfl rfl 24 _ (alloc_adr _ rfl) 1 rfl (.tmp 7) rfl _ (fun _ => rfl) (fun _ => rfl) rfl (by kernel_rfl) (adr_one true 0 1) ?_
  intro w2 hg2 hb2 hz2
  have hB2 := hb1.out.trans (hb2.mono hb1.out.size)
  have hm2 := hm1.out.below hb2
  clear hb1 hb2 hm1
  replace hg2 := hide hg2
  replace hB2 := hide hB2
  replace hm2 := hide hm2
  iterate 1 (refine wpList_plain rfl fun K hK => ?_; go_simp; refine hK _ _ ?_; clear hK K)
  refine wpList_nil ?_
  go_simp
  go_upto_region 2 with fail
  apply wp_region_lit
  refine wpList_plain rfl fun K hK => ?_
  go_simp
  refine (h2.out w2 hm2.out).mono ?_
  rintro e w3 ⟨rfl, hb3⟩
  have hg3 := blk_below hb3 hz2 hg2.out
  have hB3 := hB2.out.trans (hb3.mono hB2.out.size)
  have hz3 := hb3.size
  clear hb3 hg2 hB2 hm2 h1 h2
  replace hg3 := hide hg3
  replace hB3 := hide hB3
  go_simp
  refine hK _ _ ?_
  clear hK K
  iterate 3 (refine wpList_plain rfl fun K hK => ?_; go_simp; refine hK _ _ ?_; clear hK K)
  refine wpl_new rfl rfl 24 _ (alloc_adr _ rfl) 3 rfl (.tmp 11) rfl _ (fun _ => rfl) (fun _ => rfl) rfl (by kernel_rfl) (adr_one false 0 0) ?_
  intro w4 hg4 hb4 hz4
  have hg5 := blk_below hb4 (by omega) hg3.out
  have hB4 := hB3.out.trans (hb4.mono hB3.out.size)
  have hcg := blk_cell hg5
  clear hb4 hB3 hg3 hg4 hg5
  replace hB4 := hide hB4
  iterate 1 (refine wpList_plain rfl fun K hK => ?_; go_simp; refine hK _ _ ?_; clear hK K)
  refine wpList_nil ?_
  go_simp
  go_wp2_with fail
  go_ret
  exact ⟨rfl, hB4.out⟩
end Addr05
end Go.Proofs.YtccmbnaakdffaaaDoor
/- pfx: Right: may a prefix be. Conditions: numbers of 64 bits. -/
namespace Go.Proofs.YtccmbnaakdffaaaDoor
open Go.RowKit Go.ChangeShapes Go.WideShapes Go.ChangeAt Go.Deep
namespace Addr05
/-- May a prefix be? -/
def rightP (a : Adr) (i : Int) : Bool := decide (0 ≤ i) && a.rightP i.toNat
theorem right_no1 (a : Adr) (i : Int) (h : rightB a.v6 a.hi a.lo = false) : rightP a i = false := by
  unfold rightP Adr.rightP
  rw [Bool.and_eq_false_iff]
  right
  rw [decide_eq_false_iff_not]
  rintro ⟨h1, -⟩
  rw [(rightB_iff a).2 h1] at h
  cases h
theorem right_no2 (a : Adr) (i : Int) (h : i < 0) : rightP a i = false := by
  unfold rightP
  rw [decide_eq_false (by omega)]
  rfl
theorem right_no3 (a : Adr) (i : Int) (h0 : 0 ≤ i) (h : (a.w : Int) < i) : rightP a i = false := by
  unfold rightP Adr.rightP
  rw [Bool.and_eq_false_iff]
  right
  rw [decide_eq_false_iff_not]
  rintro ⟨-, h1, -⟩
  omega
theorem right_is (a : Adr) (i : Int) (hb : rightB a.v6 a.hi a.lo = true) (h0 : 0 ≤ i) (h : i ≤ (a.w : Int)) : rightP a i = decide (a.mask (clampN a i) = a) := by
  have e : clampN a i = i.toNat := by unfold clampN; omega
  unfold rightP Adr.rightP
  rw [decide_eq_true h0, Bool.true_and, e, decide_eq_decide]
  exact ⟨fun h => h.2.2, fun h' => ⟨(rightB_iff a).1 hb, by omega, h'⟩⟩
def pArr (a : Adr) (i : Int) : Array Value := #[.bool a.v6, .int .u64 (a.hi : Int), .int .u64 (a.lo : Int), .int .i64 i]
set_option maxRecDepth 20000 in
set_option maxHeartbeats 8000000 in
theorem pRight_any (a : Adr) (ho : a.ok) (i : Int) (w : World) :
    Calls Tryd.prog 32 #[.agg (pArr a i)] w fun e w' => e = .returned (.bool (rightP a i)) ∧ Below w.heap.size w w' := by
  have hn1 := right_no1 a i
  have hn2 := right_no2 a i
  have hn3 := right_no3 a i
  have his := right_is a i
  have hMask := Mask_any a ho i
  have hmv := a.mask_v6 (clampN a i)
  have hw128 := a.w_le
  have hR := fun w => Right_any a.v6 a.hi a.lo w
  have hBits : ∀ w : World, Calls Tryd.prog 22 #[.agg #[.bool a.v6, .int .u64 (a.hi : Int), .int .u64 (a.lo : Int)]] w fun e w' => e = .returned (.int .i64 (a.w : Int)) ∧ Below w.heap.size w w' := by
    intro w
    have h := Bits_any a.v6 (a.hi : Int) (a.lo : Int) w
    have e : (if a.v6 = true then (128 : Int) else 32) = (a.w : Int) := by unfold Adr.w; split <;> rfl
    rwa [e] at h
  obtain ⟨W, hW⟩ : ∃ W, a.w = W := ⟨_, rfl⟩
  rw [hW] at hn3 his hBits hw128
  obtain ⟨⟨mv, mh, ml⟩, hM⟩ : ∃ M, a.mask (clampN a i) = M := ⟨_, rfl⟩
  rw [hM] at hMask his hmv
  obtain ⟨RP, hRP⟩ : ∃ x, rightP a i = x := ⟨_, rfl⟩
  rw [hRP] at hn1 hn2 hn3 his ⊢
  unfold pArr
  obtain ⟨v, hi, lo⟩ := a
  clear hW hM hRP ho
  dsimp only at hn1 hn2 hn3 his hMask hmv hR hBits ⊢
  subst hmv
  unfold Adr.arr at hMask
  dsimp only at hMask
  obtain ⟨w1, hw1⟩ : ∃ w1, w.alloc (.cells #[.bool mv, .int .u64 (hi : Int), .int .u64 (lo : Int), .int .i64 i] 45) = w1 := ⟨_, rfl⟩
  have hB : Below w.heap.size w w1 := hw1 ▸ (Below.refl _ _).alloc (Nat.le_refl _) _
  have hg : w1.heap[w.heap.size]? = some (.cells #[.bool mv, .int .u64 (hi : Int), .int .u64 (lo : Int), .int .i64 i] 45 (0, 0)) := hw1 ▸ blk_new _ _ _
  have hzw : w.heap.size < w1.heap.size := by rw [← hw1]; simp
  have hcl := fun l : Later w1 => blk_cell (blk_below l.hb hzw hg)
  obtain ⟨RB, hRB⟩ : ∃ x, rightB mv hi lo = x := ⟨_, rfl⟩
  rw [hRB] at hn1 his hR
  have q1 := fun l : Later w1 => hR l.w
  have q2 := fun l : Later w1 => hBits l.w
  have q3 := fun l : Later w1 => hMask l.w
  clear hRB hR hBits hMask
  replace hB := hide hB
  replace hg := hide hg
  replace q1 := hide q1
  replace q2 := hide q2
  replace q3 := hide q3
  cases RB
  · obtain rfl : RP = false := hn1 rfl
    clear hn1 hn2 hn3 his
    go_enter Tryd.func32, Tryd.ntmps32
    go_upto_region 1 with fail
    clear hw1
    refine wp_region_L (by as_aux_lemma => kernel_rfl) ?_
    refine wpE_seg 0 27 (fuel := 0) (by as_aux_lemma => kernel_rfl) (fun d _ _ _ _ h => by cases d <;> exact h) (by as_aux_lemma => kernel_rfl) (by as_aux_lemma => kernel_rfl) ?_
    simp only [List.drop_zero, List.take_succ_cons, List.take_zero]
    iterate 2 (refine wpQE_step (fun K hK => ?_); go_simp; refine hK _ ?_; clear hK K)
    (refine wpQE_step (fun K hK => ?_); go_simp; apply Exists.intro; refine ⟨fun l => ?_, hK _ ?_⟩; (go_at_call 16; refine (q1.out l).mono ?_; rintro e w' ⟨rfl, hb⟩; exact ⟨rfl, hb⟩); clear hK K)
    refine wpQE_val_skip (.bool false) 3 rfl (fun l => rfl) (by as_aux_lemma => kernel_rfl) ?_
    dsimp only [putU, List.take_succ_cons, List.take_zero, List.drop_succ_cons, List.drop_zero, Act.put]
    iterate 1 (refine wpQE_step (fun K hK => ?_); go_simp; refine hK _ ?_; clear hK K)
    refine wpQE_val_skip (.bool false) 6 rfl (fun l => rfl) (by as_aux_lemma => kernel_rfl) ?_
    dsimp only [putU, List.take_succ_cons, List.take_zero, List.drop_succ_cons, List.drop_zero, Act.put]
    iterate 1 (refine wpQE_step (fun K hK => ?_); go_simp; refine hK _ ?_; clear hK K)
    refine wpQE_val_skip (.bool false) 8 rfl (fun l => rfl) (by as_aux_lemma => kernel_rfl) ?_
    dsimp only [putU, List.take_succ_cons, List.take_zero, List.drop_succ_cons, List.drop_zero, Act.put]
    iterate 2 (refine wpQE_step (fun K hK => ?_); go_simp; refine hK _ ?_; clear hK K)
    refine wpQE_nil ?_
    refine wpE_done (by as_aux_lemma => kernel_rfl) (fun w2 hb2 => ?_) 0
    clear hcl
    have hB2 := hB.out.trans (hb2.mono hB.out.size)
    clear hb2
    replace hB2 := hide hB2
    go_wp2_with fail
    go_ret
    exact ⟨rfl, hB2.out⟩
  by_cases h0 : i < 0
  · obtain rfl : RP = false := hn2 h0
    have t1 : decide (0 ≤ i) = false := by rw [decide_eq_false_iff_not]; omega
    have t2 : ¬ 0 ≤ i := by omega
    clear hn1 hn2 hn3 his
    replace h0 := hide h0
    go_enter Tryd.func32, Tryd.ntmps32
    go_upto_region 1 with fail
    clear hw1
    refine wp_region_L (by as_aux_lemma => kernel_rfl) ?_
    refine wpE_seg 0 27 (fuel := 0) (by as_aux_lemma => kernel_rfl) (fun d _ _ _ _ h => by cases d <;> exact h) (by as_aux_lemma => kernel_rfl) (by as_aux_lemma => kernel_rfl) ?_
    simp only [List.drop_zero, List.take_succ_cons, List.take_zero]
    iterate 2 (refine wpQE_step (fun K hK => ?_); go_simp; refine hK _ ?_; clear hK K)
    (refine wpQE_step (fun K hK => ?_); go_simp; apply Exists.intro; refine ⟨fun l => ?_, hK _ ?_⟩; (go_at_call 16; refine (q1.out l).mono ?_; rintro e w' ⟨rfl, hb⟩; exact ⟨rfl, hb⟩); clear hK K)
    iterate 4 (refine wpQE_step (fun K hK => ?_); go_simp; refine hK _ ?_; clear hK K)
    iterate 1 (refine wpQE_step (fun K hK => ?_); go_simp; refine hK _ ?_; clear hK K)
    refine wpQE_val_skip (.bool false) 6 rfl (fun l => rfl) (by as_aux_lemma => kernel_rfl) ?_
    dsimp only [putU, List.take_succ_cons, List.take_zero, List.drop_succ_cons, List.drop_zero, Act.put]
    iterate 1 (refine wpQE_step (fun K hK => ?_); go_simp; refine hK _ ?_; clear hK K)
    refine wpQE_val_skip (.bool false) 8 rfl (fun l => rfl) (by as_aux_lemma => kernel_rfl) ?_
    dsimp only [putU, List.take_succ_cons, List.take_zero, List.drop_succ_cons, List.drop_zero, Act.put]
    iterate 2 (refine wpQE_step (fun K hK => ?_); go_simp; refine hK _ ?_; clear hK K)
    refine wpQE_nil ?_
    refine wpE_done (by as_aux_lemma => kernel_rfl) (fun w2 hb2 => ?_) 0
    clear hcl
    have hB2 := hB.out.trans (hb2.mono hB.out.size)
    clear hb2
    replace hB2 := hide hB2
    go_wp2_with fail
    go_ret
    exact ⟨rfl, hB2.out⟩
  have h0' : 0 ≤ i := by omega
  have t1 : decide (0 ≤ i) = true := decide_eq_true h0'
  by_cases hw : (W : Int) < i
  · obtain rfl : RP = false := hn3 h0' hw
    have t2 : decide (i ≤ (W : Int)) = false := by rw [decide_eq_false_iff_not]; omega
    have t3 : ¬ i ≤ (W : Int) := by omega
    clear hn1 hn2 hn3 his
    replace h0 := hide h0
    replace hw := hide hw
    go_enter Tryd.func32, Tryd.ntmps32
    go_upto_region 1 with fail
    clear hw1
    refine wp_region_L (by as_aux_lemma => kernel_rfl) ?_
    refine wpE_seg 0 27 (fuel := 0) (by as_aux_lemma => kernel_rfl) (fun d _ _ _ _ h => by cases d <;> exact h) (by as_aux_lemma => kernel_rfl) (by as_aux_lemma => kernel_rfl) ?_
    simp only [List.drop_zero, List.take_succ_cons, List.take_zero]
    iterate 2 (refine wpQE_step (fun K hK => ?_); go_simp; refine hK _ ?_; clear hK K)
    (refine wpQE_step (fun K hK => ?_); go_simp; apply Exists.intro; refine ⟨fun l => ?_, hK _ ?_⟩; (go_at_call 16; refine (q1.out l).mono ?_; rintro e w' ⟨rfl, hb⟩; exact ⟨rfl, hb⟩); clear hK K)
    iterate 4 (refine wpQE_step (fun K hK => ?_); go_simp; refine hK _ ?_; clear hK K)
    iterate 1 (refine wpQE_step (fun K hK => ?_); go_simp; refine hK _ ?_; clear hK K)
    iterate 5 (refine wpQE_step (fun K hK => ?_); go_simp; refine hK _ ?_; clear hK K)
    (refine wpQE_step (fun K hK => ?_); go_simp; apply Exists.intro; refine ⟨fun l => ?_, hK _ ?_⟩; (go_at_call 22; refine (q2.out l).mono ?_; rintro e w' ⟨rfl, hb⟩; exact ⟨rfl, hb⟩); clear hK K)
    iterate 2 (refine wpQE_step (fun K hK => ?_); go_simp; refine hK _ ?_; clear hK K)
    refine wpQE_val_skip (.bool false) 8 rfl (fun l => rfl) (by as_aux_lemma => kernel_rfl) ?_
    dsimp only [putU, List.take_succ_cons, List.take_zero, List.drop_succ_cons, List.drop_zero, Act.put]
    iterate 2 (refine wpQE_step (fun K hK => ?_); go_simp; refine hK _ ?_; clear hK K)
    refine wpQE_nil ?_
    refine wpE_done (by as_aux_lemma => kernel_rfl) (fun w2 hb2 => ?_) 0
    clear hcl
    have hB2 := hB.out.trans (hb2.mono hB.out.size)
    clear hb2
    replace hB2 := hide hB2
    go_wp2_with fail
    go_ret
    exact ⟨rfl, hB2.out⟩
  have hw' : i ≤ (W : Int) := by omega
  have t2 : decide (i ≤ (W : Int)) = true := decide_eq_true hw'
  have hfin := his rfl h0' hw'
  clear hn1 hn2 hn3 his
  by_cases e1 : mh = hi
  · subst e1
    by_cases e2 : ml = lo
    · subst e2
      rw [decide_eq_true rfl] at hfin
      subst hfin
      replace h0 := hide h0
      replace hw := hide hw
      go_enter Tryd.func32, Tryd.ntmps32
      go_upto_region 1 with fail
      clear hw1
      refine wp_region_L (by as_aux_lemma => kernel_rfl) ?_
      refine wpE_seg 0 27 (fuel := 0) (by as_aux_lemma => kernel_rfl) (fun d _ _ _ _ h => by cases d <;> exact h) (by as_aux_lemma => kernel_rfl) (by as_aux_lemma => kernel_rfl) ?_
      simp only [List.drop_zero, List.take_succ_cons, List.take_zero]
      iterate 2 (refine wpQE_step (fun K hK => ?_); go_simp; refine hK _ ?_; clear hK K)
      (refine wpQE_step (fun K hK => ?_); go_simp; apply Exists.intro; refine ⟨fun l => ?_, hK _ ?_⟩; (go_at_call 16; refine (q1.out l).mono ?_; rintro e w' ⟨rfl, hb⟩; exact ⟨rfl, hb⟩); clear hK K)
      iterate 4 (refine wpQE_step (fun K hK => ?_); go_simp; refine hK _ ?_; clear hK K)
      iterate 1 (refine wpQE_step (fun K hK => ?_); go_simp; refine hK _ ?_; clear hK K)
      iterate 5 (refine wpQE_step (fun K hK => ?_); go_simp; refine hK _ ?_; clear hK K)
      (refine wpQE_step (fun K hK => ?_); go_simp; apply Exists.intro; refine ⟨fun l => ?_, hK _ ?_⟩; (go_at_call 22; refine (q2.out l).mono ?_; rintro e w' ⟨rfl, hb⟩; exact ⟨rfl, hb⟩); clear hK K)
      iterate 2 (refine wpQE_step (fun K hK => ?_); go_simp; refine hK _ ?_; clear hK K)
      iterate 5 (refine wpQE_step (fun K hK => ?_); go_simp; refine hK _ ?_; clear hK K)
      (refine wpQE_step (fun K hK => ?_); go_simp; apply Exists.intro; refine ⟨fun l => ?_, hK _ ?_⟩; (go_at_call 30; refine (q3.out l).mono ?_; rintro e w' ⟨rfl, hb⟩; exact ⟨rfl, hb⟩); clear hK K)
      iterate 5 (refine wpQE_step (fun K hK => ?_); go_simp; refine hK _ ?_; clear hK K)
      refine wpQE_nil ?_
      refine wpE_done (by as_aux_lemma => kernel_rfl) (fun w2 hb2 => ?_) 0
      clear hcl
      have hB2 := hB.out.trans (hb2.mono hB.out.size)
      clear hb2
      replace hB2 := hide hB2
      go_wp2_with fail
      go_ret
      exact ⟨rfl, hB2.out⟩
    · have n2 : ¬ (ml : Int) = (lo : Int) := by omega
      rw [decide_eq_false (fun h => e2 (Adr.mk.inj h).2.2)] at hfin
      subst hfin
      replace h0 := hide h0
      replace hw := hide hw
      go_enter Tryd.func32, Tryd.ntmps32
      go_upto_region 1 with fail
      clear hw1
      refine wp_region_L (by as_aux_lemma => kernel_rfl) ?_
      refine wpE_seg 0 27 (fuel := 0) (by as_aux_lemma => kernel_rfl) (fun d _ _ _ _ h => by cases d <;> exact h) (by as_aux_lemma => kernel_rfl) (by as_aux_lemma => kernel_rfl) ?_
      simp only [List.drop_zero, List.take_succ_cons, List.take_zero]
      iterate 2 (refine wpQE_step (fun K hK => ?_); go_simp; refine hK _ ?_; clear hK K)
      (refine wpQE_step (fun K hK => ?_); go_simp; apply Exists.intro; refine ⟨fun l => ?_, hK _ ?_⟩; (go_at_call 16; refine (q1.out l).mono ?_; rintro e w' ⟨rfl, hb⟩; exact ⟨rfl, hb⟩); clear hK K)
      iterate 4 (refine wpQE_step (fun K hK => ?_); go_simp; refine hK _ ?_; clear hK K)
      iterate 1 (refine wpQE_step (fun K hK => ?_); go_simp; refine hK _ ?_; clear hK K)
      iterate 5 (refine wpQE_step (fun K hK => ?_); go_simp; refine hK _ ?_; clear hK K)
      (refine wpQE_step (fun K hK => ?_); go_simp; apply Exists.intro; refine ⟨fun l => ?_, hK _ ?_⟩; (go_at_call 22; refine (q2.out l).mono ?_; rintro e w' ⟨rfl, hb⟩; exact ⟨rfl, hb⟩); clear hK K)
      iterate 2 (refine wpQE_step (fun K hK => ?_); go_simp; refine hK _ ?_; clear hK K)
      iterate 5 (refine wpQE_step (fun K hK => ?_); go_simp; refine hK _ ?_; clear hK K)
      (refine wpQE_step (fun K hK => ?_); go_simp; apply Exists.intro; refine ⟨fun l => ?_, hK _ ?_⟩; (go_at_call 30; refine (q3.out l).mono ?_; rintro e w' ⟨rfl, hb⟩; exact ⟨rfl, hb⟩); clear hK K)
      iterate 5 (refine wpQE_step (fun K hK => ?_); go_simp; refine hK _ ?_; clear hK K)
      refine wpQE_nil ?_
      refine wpE_done (by as_aux_lemma => kernel_rfl) (fun w2 hb2 => ?_) 0
      clear hcl
      have hB2 := hB.out.trans (hb2.mono hB.out.size)
      clear hb2
      replace hB2 := hide hB2
      go_wp2_with fail
      go_ret
      exact ⟨rfl, hB2.out⟩
  · have n1 : ¬ (mh : Int) = (hi : Int) := by omega
    rw [decide_eq_false (fun h => e1 (Adr.mk.inj h).2.1)] at hfin
    subst hfin
    replace h0 := hide h0
    replace hw := hide hw
    go_enter Tryd.func32, Tryd.ntmps32
    go_upto_region 1 with fail
    clear hw1
    refine wp_region_L (by as_aux_lemma => kernel_rfl) ?_
    refine wpE_seg 0 27 (fuel := 0) (by as_aux_lemma => kernel_rfl) (fun d _ _ _ _ h => by cases d <;> exact h) (by as_aux_lemma => kernel_rfl) (by as_aux_lemma => kernel_rfl) ?_
    simp only [List.drop_zero, List.take_succ_cons, List.take_zero]
    iterate 2 (refine wpQE_step (fun K hK => ?_); go_simp; refine hK _ ?_; clear hK K)
    (refine wpQE_step (fun K hK => ?_); go_simp; apply Exists.intro; refine ⟨fun l => ?_, hK _ ?_⟩; (go_at_call 16; refine (q1.out l).mono ?_; rintro e w' ⟨rfl, hb⟩; exact ⟨rfl, hb⟩); clear hK K)
    iterate 4 (refine wpQE_step (fun K hK => ?_); go_simp; refine hK _ ?_; clear hK K)
    iterate 1 (refine wpQE_step (fun K hK => ?_); go_simp; refine hK _ ?_; clear hK K)
    iterate 5 (refine wpQE_step (fun K hK => ?_); go_simp; refine hK _ ?_; clear hK K)
    (refine wpQE_step (fun K hK => ?_); go_simp; apply Exists.intro; refine ⟨fun l => ?_, hK _ ?_⟩; (go_at_call 22; refine (q2.out l).mono ?_; rintro e w' ⟨rfl, hb⟩; exact ⟨rfl, hb⟩); clear hK K)
    iterate 2 (refine wpQE_step (fun K hK => ?_); go_simp; refine hK _ ?_; clear hK K)
    iterate 5 (refine wpQE_step (fun K hK => ?_); go_simp; refine hK _ ?_; clear hK K)
    (refine wpQE_step (fun K hK => ?_); go_simp; apply Exists.intro; refine ⟨fun l => ?_, hK _ ?_⟩; (go_at_call 30; refine (q3.out l).mono ?_; rintro e w' ⟨rfl, hb⟩; exact ⟨rfl, hb⟩); clear hK K)
    iterate 5 (refine wpQE_step (fun K hK => ?_); go_simp; refine hK _ ?_; clear hK K)
    refine wpQE_nil ?_
    refine wpE_done (by as_aux_lemma => kernel_rfl) (fun w2 hb2 => ?_) 0
    clear hcl
    have hB2 := hB.out.trans (hb2.mono hB.out.size)
    clear hb2
    replace hB2 := hide hB2
    go_wp2_with fail
    go_ret
    exact ⟨rfl, hB2.out⟩
end Addr05
end Go.Proofs.YtccmbnaakdffaaaDoor
/- pfx: Text: a prefix as a text. Conditions: numbers of 64 bits. -/
namespace Go.Proofs.YtccmbnaakdffaaaDoor
open Go.RowKit Go.ChangeShapes Go.WideShapes Go.ChangeAt Go.Deep
namespace Addr05
set_option maxRecDepth 20000 in
set_option maxHeartbeats 4000000 in
theorem pText_any (a : Adr) (ho : a.ok) (i : Int) (w : World) :
    Calls Tryd.prog 27 #[.agg (pArr a i)] w fun e w' => e = .returned (.string (str (textP a (min (max i 0) 128).toNat))) ∧ Below w.heap.size w w' := by
  have hT := fun w => text_any a.v6 a.hi a.lo ho.1 ho.2 w
  have hlen := textA_len a
  have hN := pnum_any i
  have hnl := dig10_len (min (max i 0) 128).toNat (by omega)
  unfold textP
  unfold textA at hlen ⊢
  obtain ⟨T, hTe⟩ : ∃ x, textL a.v6 a.hi a.lo = x := ⟨_, rfl⟩
  obtain ⟨D, hDe⟩ : ∃ x, digL 10 (min (max i 0) 128).toNat = x := ⟨_, rfl⟩
  rw [hTe] at hT hlen ⊢
  rw [hDe] at hN hnl ⊢
  clear hTe hDe
  obtain ⟨T1, h1⟩ : ∃ x, T ++ [47] = x := ⟨_, rfl⟩
  obtain ⟨T2, h2⟩ : ∃ x, T1 ++ D = x := ⟨_, rfl⟩
  have hfin : T ++ 47 :: D = T2 := by rw [← h2, ← h1]; simp
  rw [hfin]
  have c1 : str T ++ ByteArray.mk #[47] = str T1 := by rw [← h1]; exact str_append T [47]
  have c2 : str T1 ++ str D = str T2 := by rw [← h2]; exact str_append _ _
  have l1 : (str T1).size = T.length + 1 := by rw [size_str, ← h1]; simp
  have z1 : ¬ 9223372036854775807 < (str T).size + 1 := by rw [size_str]; omega
  have z2 : ¬ 9223372036854775807 < (str T1).size + (str D).size := by rw [l1, size_str D]; omega
  unfold pArr
  obtain ⟨v, hi, lo⟩ := a
  dsimp only at hT ⊢
  obtain ⟨w1, hw1⟩ : ∃ w1, w.alloc (.cells #[.bool v, .int .u64 (hi : Int), .int .u64 (lo : Int), .int .i64 i] 45) = w1 := ⟨_, rfl⟩
  have hB : Below w.heap.size w w1 := hw1 ▸ (Below.refl _ _).alloc (Nat.le_refl _) _
  have hg : w1.heap[w.heap.size]? = some (.cells #[.bool v, .int .u64 (hi : Int), .int .u64 (lo : Int), .int .i64 i] 45 (0, 0)) := hw1 ▸ blk_new _ _ _
  have hzw : w.heap.size < w1.heap.size := by rw [← hw1]; simp
  have hcl := fun l : Later w1 => blk_cell (blk_below l.hb hzw hg)
  have q1 := fun l : Later w1 => hT l.w
  have q2 := fun l : Later w1 => hN l.w
  clear hT hN l1 h1 h2 hfin ho
  replace hB := hide hB
  replace hg := hide hg
  replace q1 := hide q1
  replace q2 := hide q2
  go_enter Tryd.func27, Tryd.ntmps27
  go_upto_region 1 with fail
  clear hw1
  refine wp_region_L (by as_aux_lemma => kernel_rfl) ?_
  refine wpE_seg 0 9 (fuel := 0) (by as_aux_lemma => kernel_rfl) (fun d _ _ _ _ h => by cases d <;> exact h) (by as_aux_lemma => kernel_rfl) (by as_aux_lemma => kernel_rfl) ?_
  simp only [List.drop_zero, List.take_succ_cons, List.take_zero]
  iterate 2 (refine wpQE_step (fun K hK => ?_); go_simp; refine hK _ ?_; clear hK K)
  (refine wpQE_step (fun K hK => ?_); go_simp; apply Exists.intro; refine ⟨fun l => ?_, hK _ ?_⟩; (go_at_call 15; refine (q1.out l).mono ?_; rintro e w' ⟨rfl, hb⟩; exact ⟨rfl, hb⟩); clear hK K)
  iterate 3 (refine wpQE_step (fun K hK => ?_); go_simp; refine hK _ ?_; clear hK K)
  (refine wpQE_step (fun K hK => ?_); go_simp; apply Exists.intro; refine ⟨fun l => ?_, hK _ ?_⟩; (go_at_call 53; refine (q2.out l).mono ?_; rintro e w' ⟨rfl, hb⟩; exact ⟨rfl, hb⟩); clear hK K)
  iterate 2 (refine wpQE_step (fun K hK => ?_); go_simp; refine hK _ ?_; clear hK K)
  refine wpQE_nil ?_
  refine wpE_done (by as_aux_lemma => kernel_rfl) (fun w2 hb2 => ?_) 0
  have hB2 := hB.out.trans (hb2.mono hB.out.size)
  clear hb2 hcl
  replace hB2 := hide hB2
  go_wp2_with fail
  go_ret
  exact ⟨rfl, hB2.out⟩
end Addr05
end Go.Proofs.YtccmbnaakdffaaaDoor
/- pfx: the law's bits, right. Conditions: numbers of 64 bits. -/
namespace Go.Proofs.YtccmbnaakdffaaaDoor
open Go.RowKit Go.ChangeShapes Go.WideShapes Go.ChangeAt Go.Deep
namespace Addr05
def Adr.bits (a : Adr) : List Int := (List.range a.w).map fun i => (a.bit i : Int)
theorem Adr.bits_length (a : Adr) : a.bits.length = a.w := by unfold Adr.bits; simp
theorem Adr.bits_get (a : Adr) (i : Nat) (h : i < a.w) : a.bits[i]? = some (a.bit i : Int) := by
  unfold Adr.bits
  rw [List.getElem?_map, List.getElem?_range h]
  rfl
set_option maxRecDepth 20000 in
set_option maxHeartbeats 8000000 in
theorem bits_any (a : Adr) (ho : a.ok) (w : World) :
    Calls Tryd.prog 31 #[.agg #[.bool a.v6, .int .u64 (a.hi : Int), .int .u64 (a.lo : Int)]] w fun e w' => ∃ v, e = .returned v ∧ OwnI w' w.heap.size v a.bits ∧ Below w.heap.size w w' := by
  have hw128 := a.w_le
  have hbit : ∀ (k : Nat) (w : World), k < 128 → Calls Tryd.prog 24 #[.agg #[.bool a.v6, .int .u64 (a.hi : Int), .int .u64 (a.lo : Int)], .int .i64 (k : Int)] w fun e w' => e = .returned (.int .i64 (a.bit k : Int)) ∧ Below w.heap.size w w' := by
    intro k w hk
    have h := Bit_any a ho (k : Int) (by omega) (by omega) w
    have e : bitI a (k : Int) = (a.bit k : Int) := by unfold bitI; rw [if_pos (by omega), Int.toNat_natCast]
    rwa [e] at h
  have hfin : a.bits = (List.range a.w).map fun i => (a.bit i : Int) := rfl
  obtain ⟨BS, hBS⟩ : ∃ x, a.bits = x := ⟨_, rfl⟩
  rw [hBS] at hfin ⊢
  have hW6 : (if a.v6 = true then (128 : Int) else 32) = (a.w : Int) := by unfold Adr.w; split <;> rfl
  obtain ⟨W, hW⟩ : ∃ W, a.w = W := ⟨_, rfl⟩
  rw [hW] at hfin hW6 hw128
  obtain ⟨f, hf⟩ : ∃ f, a.bit = f := ⟨_, rfl⟩
  rw [hf] at hbit hfin
  obtain ⟨v, hi, lo⟩ := a
  dsimp only at hbit hW6 ⊢
  obtain ⟨w1, hw1⟩ : ∃ w1, w.alloc (.cells #[.bool v, .int .u64 (hi : Int), .int .u64 (lo : Int)] 24) = w1 := ⟨_, rfl⟩
  have hB : Below w.heap.size w w1 := hw1 ▸ (Below.refl _ _).alloc (Nat.le_refl _) _
  have hg : w1.heap[w.heap.size]? = some (.cells #[.bool v, .int .u64 (hi : Int), .int .u64 (lo : Int)] 24 (0, 0)) := hw1 ▸ blk_new _ _ _
  have hz1 : w.heap.size < w1.heap.size := by rw [← hw1]; simp
  have hcg := blk_cell hg
  clear ho hW hf hBS
  replace hB := hide hB
  replace hg := hide hg
  replace hbit := hide hbit
  replace hfin := hide hfin
  replace hW6 := hide hW6
  go_enter Tryd.func31, Tryd.ntmps31
  go_upto_if 7 with fail
  clear hw1
  go_cut [4] (fun nv wx => nv = .int .i64 (W : Int) ∧ w1 = wx)
  case first =>
    have hW6' := hW6.out
    cases v
    · replace hW6' := hide hW6'
      go_wp2_with fail
      go_meet
      exact ⟨by rw [← hW6'.out]; rfl, rfl⟩
    · replace hW6' := hide hW6'
      go_wp2_with fail
      go_meet
      exact ⟨by rw [← hW6'.out]; rfl, rfl⟩
  case rest =>
    obtain ⟨rfl, rfl⟩ := hcut
    clear hcg
    go_upto_block 2 with fail
    go_loopw [3, 5] (fun u iv wr => ∃ k : Nat, k ≤ W ∧ iv = .int .i64 (k : Int) ∧ OwnI wr w1.heap.size u ((List.range k).map fun i => (f i : Int)) ∧ Below w1.heap.size w1 wr) (fun _ iv _ => W - (intOf iv).toNat)
    case atStart => exact ⟨0, by omega, rfl, OwnI.nil _ _, Below.refl _ _⟩
    case round =>
      obtain ⟨k, hk, rfl, hown, hb⟩ := hrel
      have hzb := hb.size
      have hgr := blk_below hb hz1 hg.out
      have hBr := hB.out.trans (hb.mono hB.out.size)
      replace hown := hide hown
      replace hb := hide hb
      replace hBr := hide hBr
      by_cases hkW : k < W
      · have i1 : (k : Int) < (W : Int) := by omega
        have hcg := blk_cell hgr
        have hq := hbit.out k wr (by omega)
        replace hgr := hide hgr
        replace hq := hide hq
        go_wp2_with fail
        refine hq.out.mono ?_
        rintro e w5 ⟨rfl, hb5⟩
        have hown5 := (show OwnI w5 w1.heap.size _ ((List.range k).map fun i => (f i : Int)) from own_below hown.out hb5)
        have hb15 := hb.out.trans (hb5.mono hzb)
        have hz5 := hb5.size
        have hlen : ((List.range k).map fun i => (f i : Int)).length = k := by simp
        clear hb5 hcg
        obtain ⟨xs, hxs⟩ : ∃ xs, ((List.range k).map fun i => (f i : Int)) = xs := ⟨_, rfl⟩
        rw [hxs] at hlen hown5
        clear hown
        replace hown5 := hide hown5
        replace hb15 := hide hb15
        replace hxs := hide hxs
        go_wp2_with (at_builtin; refine wpl_lit_i rfl (.tmp 13) (.tmp 17) rfl w1.heap.size _ xs [(f k : Int)] 1 rfl rfl hown5.out (by omega) (by rw [hlen, List.length_singleton]; omega) ?_)
        intro v' w' h1 h2 _ _
        have hB' := hb15.out.trans h2
        clear h2
        replace h1 := hide h1
        replace hB' := hide hB'
        go_wp2_with fail
        refine ⟨⟨k + 1, by omega, by first | rfl | go_num, ?_, hB'.out⟩, by simp only [intOf]; omega⟩
        have h3 := h1.out
        rw [← hxs.out] at h3
        rw [List.range_succ, List.map_append]
        exact h3
      · obtain rfl : k = W := by omega
        have i1 : ((k : Int) < (k : Int)) = False := by simp
        clear hgr
        replace hkW := hide hkW
        go_wp2_with fail
        go_ret
        exact ⟨_, rfl, by rw [hfin.out]; exact row_weaken hown.out (by omega), hBr.out⟩
end Addr05
end Go.Proofs.YtccmbnaakdffaaaDoor
/- The walk of AddrParses: it answers true. Condition: the cell of bytealg.MaxLen. -/
namespace Go.Proofs.YtccmbnaakdffaaaDoor
open Go.RowKit Go.ChangeShapes Go.WideShapes Go.ChangeAt Go.Deep
namespace Addr05
theorem str_extract (s : List UInt8) (a b : Nat) : (str s).extract a b = str ((s.take b).drop a) := by
  apply ByteArray.ext
  apply Array.ext'
  simp [str, List.drop_take]
set_option maxRecDepth 20000 in
set_option maxHeartbeats 8000000 in
theorem parses_walk (s : List UInt8) (v6 : Bool) (hi lo : Nat) (hhi : hi < 18446744073709551616) (hlo : lo < 18446744073709551616) (hsl : s.length ≤ 9223372036854775807) (w : World) (hm : MaxAt w) :
    Calls Tryd.prog 3 #[.string (str s), .agg #[.bool v6, .int .u64 (hi : Int), .int .u64 (lo : Int)]] w fun e w' => e = .returned (.bool true) ∧ Below w.heap.size w w' := by
  obtain ⟨w1, hw1⟩ : ∃ w1, w.alloc (.cells #[.bool v6, .int .u64 (hi : Int), .int .u64 (lo : Int)] 24) = w1 := ⟨_, rfl⟩
  have hB : Below w.heap.size w w1 := hw1 ▸ (Below.refl _ _).alloc (Nat.le_refl _) _
  have hg : w1.heap[w.heap.size]? = some (.cells #[.bool v6, .int .u64 (hi : Int), .int .u64 (lo : Int)] 24 (0, 0)) := hw1 ▸ blk_new _ _ _
  have hzw : w.heap.size < w1.heap.size := by rw [← hw1]; simp
  have hz : (str s).size = s.length := size_str s
  have hm1 := hm.below hB
  obtain ⟨s1, hs1⟩ : ∃ x, s.take 80 = x := ⟨_, rfl⟩
  have hl1 : s1.length ≤ 80 := by rw [← hs1, List.length_take]; omega
  replace hB := hide hB
  replace hg := hide hg
  replace hm1 := hide hm1
  replace hm := hide hm
  replace hs1 := hide hs1
  go_enter Tryd.func3, Tryd.ntmps3
  go_upto_if 9 with fail
  clear hw1
  go_cut [0] (fun sv wx => sv = .string (str s1) ∧ w1 = wx)
  case first =>
    by_cases h80 : 80 < s.length
    · have t1 : decide ((80 : Int) < (s.length : Int)) = true := by rw [decide_eq_true_eq]; omega
      have i1 : (80 : Int) ≤ (s.length : Int) := by omega
      have ex : (str s).extract 0 80 = str s1 := by rw [← hs1.out]; exact str_extract s 0 80
      replace hs1 := hide hs1
      go_wp2_with fail
      go_meet
      exact ⟨by first | rfl | rw [ex], rfl⟩
    · have t1 : decide ((80 : Int) < (s.length : Int)) = false := by rw [decide_eq_false_iff_not]; omega
      have e1 : s1 = s := by rw [← hs1.out]; exact List.take_of_length_le (by omega)
      replace h80 := hide h80
      subst e1
      go_wp2_with fail
      go_meet
      exact ⟨rfl, rfl⟩
  case rest =>
    obtain ⟨rfl, rfl⟩ := hcut
    clear hs1 hz hsl
    have hP := Parse_any s1 hl1 w1 hm1.out
    have hA := awake_any
    have hR1 := fun w => right_any v6 hi lo w
    have hT1 := fun w => ltext_any v6 hi lo hhi hlo w
    have hno : parseF s1 = none → rightB v6 hi lo = true → textL v6 hi lo ≠ s1 := by
      intro h1 h2 h3
      have h4 := parse_text ⟨v6, hi, lo⟩ ((rightB_iff _).1 h2) ⟨hhi, hlo⟩
      rw [show textA ⟨v6, hi, lo⟩ = s1 from h3, h1] at h4
      cases h4
    have hso : ∀ a, parseF s1 = some a → textA a = s1 ∧ a.ok ∧ a.right := fun a h => parse_some s1 a h
    obtain ⟨PF, hPF⟩ : ∃ x, parseF s1 = x := ⟨_, rfl⟩
    obtain ⟨RB, hRB⟩ : ∃ x, rightB v6 hi lo = x := ⟨_, rfl⟩
    obtain ⟨TL, hTL⟩ : ∃ x, textL v6 hi lo = x := ⟨_, rfl⟩
    rw [hPF] at hP hno hso
    rw [hRB] at hR1 hno
    rw [hTL] at hT1 hno
    clear hPF hRB hTL
    cases PF with
    | none =>
      have hP' : Calls Tryd.prog 11 #[.string (str s1)] w1 fun e w' => e = .returned (.tuple #[.agg #[.bool false, .int .u64 0, .int .u64 0], .int .i64 18]) ∧ Below w1.heap.size w1 w' := hP
      have hno' := hno rfl
      clear hP hno hso
      replace hP' := hide hP'
      replace hA := hide hA
      replace hR1 := hide hR1
      replace hT1 := hide hT1
      replace hno' := hide hno'
      go_upto_region 3 with fail
      apply wp_region_lit
      iterate 1 (refine wpList_plain rfl fun K hK => ?_; go_simp; refine hK _ _ ?_; clear hK K)
      refine wpList_plain rfl fun K hK => ?_
      go_simp
      refine (hP'.out).mono ?_
      rintro e w2 ⟨rfl, hb2⟩
      have hg2 := blk_below hb2 hzw hg.out
      have hB2 := hB.out.trans (hb2.mono hB.out.size)
      have hz2 := hb2.size
      have hm2 := hm1.out.below hb2
      clear hb2 hP' hg hB hm1
      replace hg2 := hide hg2
      replace hB2 := hide hB2
      replace hm2 := hide hm2
      go_simp
      refine hK _ _ ?_
      clear hK K
      iterate 3 (refine wpList_plain rfl fun K hK => ?_; go_simp; refine hK _ _ ?_; clear hK K)
      refine wpl_new rfl rfl 24 _ (alloc_adr _ rfl) 5 rfl (.tmp 15) rfl _ (fun _ => rfl) (fun _ => rfl) rfl (by kernel_rfl) (adr_one false 0 0) ?_
      intro w3 hg3 hb3 hz3
      have hg4 := blk_below hb3 (by omega) hg2.out
      have hB3 := hB2.out.trans (hb3.mono hB2.out.size)
      have hm3 := hm2.out.below hb3
      have hcg := blk_cell hg3
      have hca := blk_cell hg4
      clear hb3 hg2 hB2 hm2
      replace hg3 := hide hg3
      replace hB3 := hide hB3
      replace hm3 := hide hm3
      replace hg4 := hide hg4
      iterate 1 (refine wpList_plain rfl fun K hK => ?_; go_simp; refine hK _ _ ?_; clear hK K)
      refine wpList_nil ?_
      go_simp
      go_wp2_with fail
      refine (hR1.out w3).mono ?_
      rintro e w4 ⟨rfl, hb4⟩
      cases RB
      · have hB4 := hB3.out.trans (hb4.mono hB3.out.size)
        have hm4 := hm3.out.below hb4
        clear hb4 hcg hca
        replace hB4 := hide hB4
        go_wp2_with fail
        refine (hA.out w4 hm4).mono ?_
        rintro e w5 ⟨rfl, hb5⟩
        have hB5 := hB4.out.trans (hb5.mono hB4.out.size)
        clear hb5
        replace hB5 := hide hB5
        go_wp2_with fail
        go_ret
        exact ⟨rfl, hB5.out⟩
      · have hne := hno'.out rfl
        have hg5 := blk_below hb4 (by omega) hg4.out
        have hB4 := hB3.out.trans (hb4.mono hB3.out.size)
        have hm4 := hm3.out.below hb4
        clear hcg hca hb4
        have hca := blk_cell hg5
        have tq : ((str TL).toList == (str s1).toList) = false := by rw [str_toList, str_toList]; simpa using hne
        replace hB4 := hide hB4
        replace hg5 := hide hg5
        replace hne := hide hne
        replace hm4 := hide hm4
        go_wp2_with fail
        refine (hT1.out w4).mono ?_
        rintro e w5 ⟨rfl, hb5⟩
        have hB5 := hB4.out.trans (hb5.mono hB4.out.size)
        have hm5 := hm4.out.below hb5
        clear hb5 hca
        replace hB5 := hide hB5
        go_wp2_with fail
        refine (hA.out w5 hm5).mono ?_
        rintro e w6 ⟨rfl, hb6⟩
        have hB6 := hB5.out.trans (hb6.mono hB5.out.size)
        clear hb6
        replace hB6 := hide hB6
        go_wp2_with fail
        go_ret
        exact ⟨rfl, hB6.out⟩
    | some a =>
      obtain ⟨v, h, l⟩ := a
      obtain ⟨ht, ⟨ho1, ho2⟩, hr⟩ := hso _ rfl
      have hrb := (rightB_iff ⟨v, h, l⟩).2 hr
      have hP' : Calls Tryd.prog 11 #[.string (str s1)] w1 fun e w' => e = .returned (.tuple #[.agg #[.bool v, .int .u64 (h : Int), .int .u64 (l : Int)], .int .i64 0]) ∧ Below w1.heap.size w1 w' := hP
      have hR2 := fun w => right_any v h l w
      have hT2 := fun w => ltext_any v h l ho1 ho2 w
      dsimp only at hrb
      rw [hrb] at hR2
      rw [show textL v h l = s1 from ht] at hT2
      clear hP hno hso hR1 hT1 hrb hr ht
      replace hP' := hide hP'
      replace hA := hide hA
      replace hR2 := hide hR2
      replace hT2 := hide hT2
      go_upto_region 3 with fail
      apply wp_region_lit
      iterate 1 (refine wpList_plain rfl fun K hK => ?_; go_simp; refine hK _ _ ?_; clear hK K)
      refine wpList_plain rfl fun K hK => ?_
      go_simp
      refine (hP'.out).mono ?_
      rintro e w2 ⟨rfl, hb2⟩
      have hB2 := hB.out.trans (hb2.mono hB.out.size)
      have hz2 := hb2.size
      have hm2 := hm1.out.below hb2
      clear hb2 hP' hg hB hm1
      replace hB2 := hide hB2
      replace hm2 := hide hm2
      go_simp
      refine hK _ _ ?_
      clear hK K
      iterate 3 (refine wpList_plain rfl fun K hK => ?_; go_simp; refine hK _ _ ?_; clear hK K)
      refine wpl_new rfl rfl 24 _ (alloc_adr _ rfl) 5 rfl (.tmp 15) rfl _ (fun _ => rfl) (fun _ => rfl) rfl (by kernel_rfl) (adr_one v (h : Int) (l : Int)) ?_
      intro w3 hg3 hb3 hz3
      have hB3 := hB2.out.trans (hb3.mono hB2.out.size)
      have hm3 := hm2.out.below hb3
      have hcg := blk_cell hg3
      clear hb3 hB2 hm2
      replace hg3 := hide hg3
      replace hB3 := hide hB3
      replace hm3 := hide hm3
      iterate 1 (refine wpList_plain rfl fun K hK => ?_; go_simp; refine hK _ _ ?_; clear hK K)
      refine wpList_nil ?_
      go_simp
      go_wp2_with fail
      refine (hR2.out w3).mono ?_
      rintro e w4 ⟨rfl, hb4⟩
      have hg4 := blk_below hb4 hz3 hg3.out
      have hB4 := hB3.out.trans (hb4.mono hB3.out.size)
      have hm4 := hm3.out.below hb4
      clear hcg hb4
      have hcg := blk_cell hg4
      replace hB4 := hide hB4
      replace hg4 := hide hg4
      replace hm4 := hide hm4
      go_wp2_with fail
      refine (hT2.out w4).mono ?_
      rintro e w5 ⟨rfl, hb5⟩
      have hB5 := hB4.out.trans (hb5.mono hB4.out.size)
      have hm5 := hm4.out.below hb5
      clear hb5 hcg
      replace hB5 := hide hB5
      go_wp2_with fail
      refine (hA.out w5 hm5).mono ?_
      rintro e w6 ⟨rfl, hb6⟩
      have hB6 := hB5.out.trans (hb6.mono hB5.out.size)
      clear hb6
      replace hB6 := hide hB6
      go_wp2_with fail
      go_ret
      exact ⟨rfl, hB6.out⟩
theorem u64_nat {i : Int} (h : (Lit.int .u64 i).wf = true) : ∃ n : Nat, i = (n : Int) ∧ n < 18446744073709551616 := by
  have h2 := u64_wf h
  exact ⟨i.toNat, by omega, by omega⟩
theorem str_data (s : ByteArray) : str s.data.toList = s := by
  apply ByteArray.ext
  rfl
theorem parses_row (s : ByteArray) (v6 : Bool) (hi lo : Int) (w : World) (hs : s.size ≤ maxLen) (h1 : (Lit.int .u64 hi).wf = true) (h2 : (Lit.int .u64 lo).wf = true) (hm : MaxAt w) :
    Calls Tryd.prog 3 #[.string s, .agg #[.bool v6, .int .u64 hi, .int .u64 lo]] w fun e w' => e = .returned (.bool true) ∧ Below w.heap.size w w' := by
  obtain ⟨hi, rfl, h1'⟩ := u64_nat h1
  obtain ⟨lo, rfl, h2'⟩ := u64_nat h2
  have h := parses_walk s.data.toList v6 hi lo h1' h2' (by unfold maxLen at hs; rw [Array.length_toList]; exact hs) w hm
  rw [str_data] at h
  exact h
end Addr05
end Go.Proofs.YtccmbnaakdffaaaDoor
