/- The walk of AddrTexts: it answers true. Condition: the cell of bytealg.MaxLen. -/
import Derived.Test.YtccmbnaakdffaaaDoorQAddrParses9
namespace Go.Proofs.YtccmbnaakdffaaaDoor
open Go.RowKit Go.ChangeShapes Go.WideShapes Go.ChangeAt Go.Deep
namespace Addr05
theorem text4_mod (lo : Nat) : text4 lo = text4 (lo % 4294967296) := by
  unfold text4
  have e3 : lo / 2 ^ (8 * 3) % 256 = lo % 4294967296 / 2 ^ (8 * 3) % 256 := by omega
  have e2 : lo / 2 ^ (8 * 2) % 256 = lo % 4294967296 / 2 ^ (8 * 2) % 256 := by omega
  have e1 : lo / 2 ^ (8 * 1) % 256 = lo % 4294967296 / 2 ^ (8 * 1) % 256 := by omega
  have e0 : lo / 2 ^ (8 * 0) % 256 = lo % 4294967296 / 2 ^ (8 * 0) % 256 := by omega
  simp only [d4]
  rw [e3, e2, e1, e0]
theorem parse_textA (a : Adr) (ho : a.ok) : ∃ b, parseF (textA a) = some b ∧ b.ok ∧ (a.right → b = a) := by
  by_cases hr : a.right
  · exact ⟨a, parse_text a hr ho, ho, fun _ => rfl⟩
  · obtain ⟨v, hi, lo⟩ := a
    cases v
    · have h1 : textA ⟨false, hi, lo⟩ = textA ⟨false, 0, lo % 4294967296⟩ := text4_mod lo
      have ho2 : Adr.ok ⟨false, 0, lo % 4294967296⟩ := ⟨by dsimp only; omega, by dsimp only; omega⟩
      refine ⟨⟨false, 0, lo % 4294967296⟩, ?_, ho2, fun h => absurd h hr⟩
      rw [h1]
      exact parse_text _ (.inr ⟨rfl, by dsimp only; omega⟩) ho2
    · exact absurd (.inl rfl) hr
set_option maxRecDepth 20000 in
set_option maxHeartbeats 8000000 in
theorem texts_walk (v6 : Bool) (hi lo : Nat) (hhi : hi < 18446744073709551616) (hlo : lo < 18446744073709551616) (w : World) (hm : MaxAt w) :
    Calls Tryd.prog 4 #[.agg #[.bool v6, .int .u64 (hi : Int), .int .u64 (lo : Int)]] w fun e w' => e = .returned (.bool true) ∧ Below w.heap.size w w' := by
  obtain ⟨w1, hw1⟩ : ∃ w1, w.alloc (.cells #[.bool v6, .int .u64 (hi : Int), .int .u64 (lo : Int)] 24) = w1 := ⟨_, rfl⟩
  have hB : Below w.heap.size w w1 := hw1 ▸ (Below.refl _ _).alloc (Nat.le_refl _) _
  have hg : w1.heap[w.heap.size]? = some (.cells #[.bool v6, .int .u64 (hi : Int), .int .u64 (lo : Int)] 24 (0, 0)) := hw1 ▸ blk_new _ _ _
  have hzw : w.heap.size < w1.heap.size := by rw [← hw1]; simp
  have hm1 := hm.below hB
  have hcg := blk_cell hg
  have hT := fun w => text_any v6 hi lo hhi hlo w
  have hT1 := fun w => ltext_any v6 hi lo hhi hlo w
  have hR0 := fun w => Right_any v6 hi lo w
  have hR1 := fun w => right_any v6 hi lo w
  have hlen := textA_len ⟨v6, hi, lo⟩
  have hps := parse_textA ⟨v6, hi, lo⟩ ⟨hhi, hlo⟩
  have hri := rightB_iff ⟨v6, hi, lo⟩
  have hA := awake_any
  unfold textA at hlen hps
  dsimp only at hlen hps hri
  obtain ⟨TL, hTL⟩ : ∃ x, textL v6 hi lo = x := ⟨_, rfl⟩
  obtain ⟨RB, hRB⟩ : ∃ x, rightB v6 hi lo = x := ⟨_, rfl⟩
  rw [hTL] at hT hT1 hlen hps
  rw [hRB] at hR0 hR1 hri
  obtain ⟨⟨v, h, l⟩, hp, ⟨ho1, ho2⟩, hpr⟩ := hps
  clear hTL hRB
  replace hB := hide hB
  replace hg := hide hg
  replace hm1 := hide hm1
  replace hm := hide hm
  replace hT := hide hT
  replace hT1 := hide hT1
  replace hR0 := hide hR0
  replace hR1 := hide hR1
  replace hp := hide hp
  replace hpr := hide hpr
  replace hri := hide hri
  replace hA := hide hA
  go_enter Tryd.func4, Tryd.ntmps4
  go_wp2_with fail
  clear hw1
  refine (hT.out w1).mono ?_
  rintro e w2 ⟨rfl, hb2⟩
  have hg2 := blk_below hb2 hzw hg.out
  have hB2 := hB.out.trans (hb2.mono hB.out.size)
  have hz2 := hb2.size
  have hm2 := hm1.out.below hb2
  have hP := Parse_any TL (by omega) w2 hm2
  rw [hp.out] at hP
  have hP' : Calls Tryd.prog 11 #[.string (str TL)] w2 fun e w' => e = .returned (.tuple #[.agg #[.bool v, .int .u64 (h : Int), .int .u64 (l : Int)], .int .i64 0]) ∧ Below w2.heap.size w2 w' := hP
  clear hb2 hT hg hB hm1 hcg hP
  replace hg2 := hide hg2
  replace hB2 := hide hB2
  replace hm2 := hide hm2
  replace hP' := hide hP'
  go_upto_region 2 with fail
  apply wp_region_lit
  iterate 1 (refine wpList_plain rfl fun K hK => ?_; go_simp; refine hK _ _ ?_; clear hK K)
  refine wpList_plain rfl fun K hK => ?_
  go_simp
  refine (hP'.out).mono ?_
  rintro e w3 ⟨rfl, hb3⟩
  have hg3 := blk_below hb3 (by omega) hg2.out
  have hB3 := hB2.out.trans (hb3.mono hB2.out.size)
  have hz3 := hb3.size
  have hm3 := hm2.out.below hb3
  clear hb3 hP' hg2 hB2 hm2
  replace hg3 := hide hg3
  replace hB3 := hide hB3
  replace hm3 := hide hm3
  go_simp
  refine hK _ _ ?_
  clear hK K
  iterate 3 (refine wpList_plain rfl fun K hK => ?_; go_simp; refine hK _ _ ?_; clear hK K)
  refine wpl_new rfl rfl 24 _ (alloc_adr _ rfl) 4 rfl (.tmp 11) rfl _ (fun _ => rfl) (fun _ => rfl) rfl (by kernel_rfl) (adr_one v (h : Int) (l : Int)) ?_
  intro w4 hg4 hb4 hz4
  have hb4a := blk_below hb4 (by omega) hg3.out
  have hB4 := hB3.out.trans (hb4.mono hB3.out.size)
  have hm4 := hm3.out.below hb4
  clear hb4 hg3 hB3 hm3
  replace hg4 := hide hg4
  replace hb4a := hide hb4a
  replace hB4 := hide hB4
  replace hm4 := hide hm4
  iterate 1 (refine wpList_plain rfl fun K hK => ?_; go_simp; refine hK _ _ ?_; clear hK K)
  refine wpList_nil ?_
  go_simp
  have q1 := fun l : Later w4 => hT1.out l.w
  have q2 := fun l : Later w4 => hR0.out l.w
  have q3 := fun l : Later w4 => hR1.out l.w
  have hl := fun l : Later w4 => blk_cell (blk_below l.hb (by omega) hb4a.out)
  replace q1 := hide q1
  replace q2 := hide q2
  replace q3 := hide q3
  go_upto_region 3 with fail
  refine wp_region_L (by as_aux_lemma => kernel_rfl) ?_
  refine wpE_seg 0 11 (fuel := 0) (by as_aux_lemma => kernel_rfl) (fun d _ _ _ _ h => by cases d <;> exact h) (by as_aux_lemma => kernel_rfl) (by as_aux_lemma => kernel_rfl) ?_
  simp only [List.drop_zero, List.take_succ_cons, List.take_zero]
  iterate 2 (refine wpQE_step (fun K hK => ?_); go_simp; refine hK _ ?_; clear hK K)
  (refine wpQE_step (fun K hK => ?_); go_simp; apply Exists.intro; refine ⟨fun l => ?_, hK _ ?_⟩; (go_at_call 13; refine (q1.out l).mono ?_; rintro e w' ⟨rfl, hb⟩; exact ⟨rfl, hb⟩); clear hK K)
  iterate 3 (refine wpQE_step (fun K hK => ?_); go_simp; refine hK _ ?_; clear hK K)
  (refine wpQE_step (fun K hK => ?_); go_simp; apply Exists.intro; refine ⟨fun l => ?_, hK _ ?_⟩; (go_at_call 16; refine (q2.out l).mono ?_; rintro e w' ⟨rfl, hb⟩; exact ⟨rfl, hb⟩); clear hK K)
  iterate 1 (refine wpQE_step (fun K hK => ?_); go_simp; refine hK _ ?_; clear hK K)
  (refine wpQE_step (fun K hK => ?_); go_simp; apply Exists.intro; refine ⟨fun l => ?_, hK _ ?_⟩; (go_at_call 12; refine (q3.out l).mono ?_; rintro e w' ⟨rfl, hb⟩; exact ⟨rfl, hb⟩); clear hK K)
  iterate 2 (refine wpQE_step (fun K hK => ?_); go_simp; refine hK _ ?_; clear hK K)
  refine wpQE_nil ?_
  refine wpE_done (by as_aux_lemma => kernel_rfl) (fun w5 hb5 => ?_) 0
  have hg5 := blk_below hb5 (by omega) hb4a.out
  have hg5b := blk_below hb5 hz4 hg4.out
  have hB5 := hB4.out.trans (hb5.mono hB4.out.size)
  have hz5 := hb5.size
  have hm5 := hm4.out.below hb5
  clear hb5 hl q1 q2 q3 hg4 hb4a hB4 hm4
  have hca := blk_cell hg5
  replace hg5 := hide hg5
  replace hg5b := hide hg5b
  replace hB5 := hide hB5
  replace hm5 := hide hm5
  go_wp2_with fail
  refine (hR1.out w5).mono ?_
  rintro e w6 ⟨rfl, hb6⟩
  have hB6 := hB5.out.trans (hb6.mono hB5.out.size)
  have hm6 := hm5.out.below hb6
  have hg6 := blk_below hb6 (by omega) hg5.out
  have hg6b := blk_below hb6 (by omega) hg5b.out
  clear hb6 hca hg5 hg5b hB5 hm5
  cases RB
  · clear hg6 hg6b
    replace hB6 := hide hB6
    go_wp2_with fail
    refine (hA.out w6 hm6).mono ?_
    rintro e w7 ⟨rfl, hb7⟩
    have hB7 := hB6.out.trans (hb7.mono hB6.out.size)
    clear hb7
    replace hB7 := hide hB7
    go_wp2_with fail
    go_ret
    exact ⟨rfl, hB7.out⟩
  · have heq := hpr.out (hri.out.1 rfl)
    obtain ⟨rfl, rfl, rfl⟩ := Adr.mk.inj heq
    have hca := blk_cell hg6
    have hcb := blk_cell hg6b
    clear hri hpr
    replace hB6 := hide hB6
    replace hm6 := hide hm6
    go_wp2_with fail
    refine (hA.out w6 hm6.out).mono ?_
    rintro e w7 ⟨rfl, hb7⟩
    have hB7 := hB6.out.trans (hb7.mono hB6.out.size)
    clear hb7
    replace hB7 := hide hB7
    go_wp2_with fail
    go_ret
    exact ⟨rfl, hB7.out⟩
theorem texts_row (v6 : Bool) (hi lo : Int) (w : World) (h1 : (Lit.int .u64 hi).wf = true) (h2 : (Lit.int .u64 lo).wf = true) (hm : MaxAt w) :
    Calls Tryd.prog 4 #[.agg #[.bool v6, .int .u64 hi, .int .u64 lo]] w fun e w' => e = .returned (.bool true) ∧ Below w.heap.size w w' := by
  obtain ⟨hi, rfl, h1'⟩ := u64_nat h1
  obtain ⟨lo, rfl, h2'⟩ := u64_nat h2
  exact texts_walk v6 hi lo h1' h2' w hm
end Addr05
end Go.Proofs.YtccmbnaakdffaaaDoor
