/- gen: traffic that is made of a plan, and its next flow: the code's and the document's. Conditions: a plan that may be. -/
import Derived.Test.YtfmmmjaficbchaaQGenFlows1
import Derived.Test.YtfmmmjaficbchaaQNatFlows8
import Derived.Test.YtfmmmjaficbchaaQNatFlows18
import Derived.Test.YtfmmmjaficbchaaQNatFlows3
import Derived.Test.YtfmmmjaficbchaaQNatFlows2
import Derived.Test.YtfmmmjaficbchaaQNatFlows16
import Derived.Test.YtfmmmjaficbchaaQNatFlows12
import Derived.Test.YtfmmmjaficbchaaQNatFlows4
import Derived.Test.YtfmmmjaficbchaaQNatFlows17
namespace Go.Proofs.Ytfmmmjaficbchaa
open Go.RowKit Go.ChangeShapes Go.WideShapes Go.ChangeAt Go.Deep
namespace Gen35
open Mix (mixN belN)
open Pkt (tuA tuA_one)
def srcA (g : Nat) (p : PlanL) (o : Value) : Array Value := #[.pointer (some ⟨g, 0, none⟩), .int .u64 (p.key : Int), .int .i64 p.cl, .int .i64 p.po, .bool p.v6, .int .u64 (p.hi : Int), .int .u64 (p.lo : Int), .int .i64 p.pr, .int .i64 p.vp, .int .i64 p.co, .bool p.na, .int .i64 p.mo, o]
def plaA (p : PlanL) (at_ : Nat) (o : Value) : Array Value := #[.int .u64 (p.key : Int), .int .i64 p.cl, .int .i64 p.po, .bool p.v6, .int .u64 (p.hi : Int), .int .u64 (p.lo : Int), .int .i64 p.pr, .int .i64 p.vp, .int .i64 p.co, .bool p.na, .int .i64 p.mo, .int .u64 (at_ : Int), o]
/-- The next state of the numbers. -/
def stepN (a : Nat) : Nat := (a + 11400714819323198485) % 18446744073709551616
theorem stepN_lt (a : Nat) : stepN a < 18446744073709551616 := Nat.mod_lt _ (by omega)
theorem stepN_wrap (a : Nat) : IntKind.u64.wrap ((a : Int) + 11400714819323198485) = (stepN a : Int) := by
  unfold stepN
  rw [IntKind.wrap_u64]; omega
abbrev GenAt (w : World) (g a : Nat) : Prop := w.heap[g]? = some (.cells #[.int .u64 (a : Int)] 94 (0, 0))
abbrev SrcAt (w : World) (s g : Nat) (p : PlanL) (o : Value) : Prop := w.heap[s]? = some (.cells (srcA g p o) 66 (0, 0))
abbrev PlaAt (w : World) (x : Nat) (p : PlanL) (a : Nat) (o : Value) : Prop := w.heap[x]? = some (.cells (plaA p a o) 59 (0, 0))
theorem ad1 (a : Bool) (b c : Int) : (#[.bool a, .int .u64 b, .int .u64 c] : Array Value).all (·.oneCell') = true := all_oneCell_toArray (by
  intro v hv
  simp only [List.mem_cons, List.not_mem_nil, or_false] at hv
  rcases hv with rfl | rfl | rfl <;> rfl)
theorem next_any (g a : Nat) (w : World) (hg : GenAt w g a) : Calls Try.prog 30 #[.pointer (some ⟨g, 0, none⟩)] w fun e w' => e = .returned (.int .u64 ((mixN (stepN a) : Nat) : Int)) ∧ GenAt w' g (stepN a) ∧ w.grownBy w' (some g) := by
  have q1 := stepN_wrap a
  have hlt := stepN_lt a
  obtain ⟨b, hb⟩ : ∃ b, stepN a = b := ⟨_, rfl⟩
  rw [hb] at q1 hlt ⊢
  have hc0 := blk_cell hg
  have hf0 := blk_free hg 0
  obtain ⟨w1, e1, hg1, g1⟩ := store_cell hg 0 (.int .u64 (b : Int))
  have hc1 := blk_cell hg1
  clear hg
  replace hg1 := hide hg1
  replace g1 := hide g1
  replace hb := hide hb
  go_enter Try.func30, Try.ntmps30
  go_upto_region 4 with fail
  clear hc0 hf0 e1
  go_wp2_with fail
  refine (Mix.one_any b hlt _).mono ?_
  rintro e w' ⟨rfl, rfl⟩
  go_wp2_with fail
  go_ret
  exact ⟨rfl, hg1.out, g1.out⟩
theorem lnext_any (x a : Nat) (p : PlanL) (o : Value) (w : World) (hg : PlaAt w x p a o) : Calls Try.prog 52 #[.pointer (some ⟨x, 0, none⟩)] w fun e w' => e = .returned (.int .u64 ((mixN (stepN a) : Nat) : Int)) ∧ PlaAt w' x p (stepN a) o ∧ w.grownBy w' (some x) := by
  have q1 := stepN_wrap a
  have hlt := stepN_lt a
  obtain ⟨b, hb⟩ : ∃ b, stepN a = b := ⟨_, rfl⟩
  rw [hb] at q1 hlt ⊢
  have hc0 := (blk_cell hg 11).trans (show (plaA p a o)[11]? = some (.int .u64 (a : Int)) from rfl)
  have hf0 := blk_free hg 11
  obtain ⟨w1, e1, hg1, g1⟩ := store_cell hg 11 (.int .u64 (b : Int))
  rw [show (plaA p a o).setIfInBounds 11 (.int .u64 (b : Int)) = plaA p b o from rfl] at hg1
  have hc1 := (blk_cell hg1 11).trans (show (plaA p b o)[11]? = some (.int .u64 (b : Int)) from rfl)
  clear hg
  replace hg1 := hide hg1
  replace g1 := hide g1
  replace hb := hide hb
  go_enter Try.func52, Try.ntmps52
  go_upto_region 2 with fail
  clear hc0 hf0 e1
  go_wp2_with fail
  refine (Mix.refOne_any b hlt _).mono ?_
  rintro e w' ⟨rfl, rfl⟩
  go_wp2_with fail
  go_ret
  exact ⟨rfl, hg1.out, g1.out⟩
theorem newgen_any (k : Nat) (w : World) : Calls Try.prog 45 #[.int .u64 (k : Int)] w fun e w' => ∃ g, e = .returned (.pointer (some ⟨g, 0, none⟩)) ∧ w.heap.size ≤ g ∧ GenAt w' g k ∧ Below w.heap.size w w' := by
  go_enter Try.func45, Try.ntmps45
  go_wp2_with fail
  go_ret
  exact ⟨_, rfl, Nat.le_refl _, blk_new _ _ _, (Below.refl _ _).alloc (Nat.le_refl _) _⟩
theorem none_src (s g : Nat) (p : PlanL) (o : Value) (w : World) (hs : SrcAt w s g p o) : Calls Try.prog 47 #[.pointer (some ⟨s, 0, none⟩)] w fun e w' => e = .returned (.bool false) ∧ w = w' := by
  have hc0 := (blk_cell hs 0).trans (show (srcA g p o)[0]? = some (.pointer (some ⟨g, 0, none⟩)) from rfl)
  clear hs
  go_enter Try.func47, Try.ntmps47
  go_wp2_with fail
  go_ret
  exact ⟨rfl, rfl⟩
def srcHi (p : PlanL) : Nat := if p.v6 = true then 2306139568115548160 else 0
def srcLo (p : PlanL) (n : Nat) : Nat := if p.v6 = true then n + 1 else 167772161 + n
theorem client_any (s g : Nat) (p : PlanL) (o : Value) (n : Nat) (hn : n ≤ 65535) (w : World) (hs : SrcAt w s g p o) : Calls Try.prog 53 #[.pointer (some ⟨s, 0, none⟩), .int .i64 (n : Int)] w fun e w' => e = .returned (.agg #[.bool p.v6, .int .u64 (srcHi p : Int), .int .u64 (srcLo p n : Int)]) ∧ Below w.heap.size w w' := by
  obtain ⟨w1, hw1⟩ : ∃ w1, w.alloc (.cells #[.bool false, .int .u64 0, .int .u64 0] 26) = w1 := ⟨_, rfl⟩
  have hB1 : Below w.heap.size w w1 := hw1 ▸ (Below.refl _ _).alloc (Nat.le_refl _) _
  have hg1 : w1.heap[w.heap.size]? = some (.cells #[.bool false, .int .u64 0, .int .u64 0] 26 (0, 0)) := hw1 ▸ blk_new _ _ _
  have hc4 := (blk_cell (blk_on hB1 hs) 4).trans (show (srcA g p o)[4]? = some (.bool p.v6) from rfl)
  clear hs
  obtain ⟨L, hL⟩ : ∃ L, srcLo p n = L := ⟨_, rfl⟩
  obtain ⟨H, hH⟩ : ∃ L, srcHi p = L := ⟨_, rfl⟩
  rw [hL, hH]
  unfold srcLo at hL
  unfold srcHi at hH
  have q1 : IntKind.u64.wrap (n : Int) = (n : Int) := by rw [IntKind.wrap_u64]; omega
  have q3 : IntKind.u32.wrap (n : Int) = (n : Int) := by rw [IntKind.wrap_u32]; omega
  have q4 : bits .or .u32 167772160 (n : Int) = 167772160 + (n : Int) := bits_join .u32 32 (by decide) (by intro n h0 h1; rw [IntKind.wrap_u32]; omega) 16 167772160 n (by decide) (by decide) (by decide) (by omega) (by omega) (by omega)
  replace hB1 := hide hB1
  replace hg1 := hide hg1
  replace hL := hide hL
  replace hH := hide hH
  go_enter Try.func53, Try.ntmps53
  go_upto_region 1 with fail
  clear hw1
  cases hv : p.v6 with
  | true =>
    rw [hv] at hc4
    have hL1 := hL.out
    have hH1 := hH.out
    rw [hv, if_pos rfl] at hL1 hH1
    subst hH1
    have q2 : IntKind.u64.wrap ((n : Int) + 1) = (L : Int) := by rw [IntKind.wrap_u64]; omega
    clear hL1 hL hH
    go_upto_region 2 with fail
    apply wp_region_lit
    iterate 3 (refine wpList_plain rfl fun K hK => ?_; go_simp; refine hK _ _ ?_; clear hK K)
    refine wpList_plain rfl fun K hK => ?_
    go_simp
    refine (v6_any 2306139568115548160 _ _).mono ?_
    rintro e w2 ⟨rfl, hb2⟩
    go_simp
    refine hK _ _ ?_
    clear hK K
    have hg2 := blk_on hb2 hg1.out
    have hB2 := hB1.out.trans (hb2.mono hB1.out.size)
    refine wpl_st rfl 26 (.tmp 4) (.tmp 15) rfl w.heap.size 0 rfl #[.bool true, .int .u64 2306139568115548160, .int .u64 (L : Int)] rfl hg2 (show 0 + 3 ≤ 3 by omega) (by kernel_rfl) (ad1 _ _ _) fun w4 hg4 g4 => ?_
    rw [putA_whole _ _ (by rfl)] at hg4
    have hB4 := hB2.trans (below_grown g4 hB2.size (Nat.le_refl _))
    clear g4 hg2 hB2 hc4 hb2
    have hc9 := blk_cell hg4
    replace hB4 := hide hB4
    refine wpList_nil ?_
    go_wp2_with fail
    exact bodyPost_ret (v := .agg #[.bool true, .int .u64 2306139568115548160, .int .u64 (L : Int)]) (by simp [results, Try.results53, go_sem, hc9]) rfl ⟨by rw [hv]; rfl, hB4.out⟩
  | false =>
    rw [hv] at hc4
    have hL1 := hL.out
    have hH1 := hH.out
    rw [hv] at hL1 hH1
    simp only [Bool.false_eq_true, if_false] at hL1 hH1
    subst hH1
    have q5 : IntKind.u32.wrap (167772160 + (n : Int) + 1) = (L : Int) := by rw [IntKind.wrap_u32]; omega
    have q6 : (L : Int) < 4294967296 := by omega
    clear hL1 hL hH
    go_upto_region 3 with fail
    apply wp_region_lit
    iterate 4 (refine wpList_plain rfl fun K hK => ?_; go_simp; refine hK _ _ ?_; clear hK K)
    refine wpList_plain rfl fun K hK => ?_
    go_simp
    refine (Four.v4_any _ _ (by omega) (by omega)).mono ?_
    rintro e w2 ⟨rfl, hb2⟩
    go_simp
    refine hK _ _ ?_
    clear hK K
    have hg2 := blk_on hb2 hg1.out
    have hB2 := hB1.out.trans (hb2.mono hB1.out.size)
    refine wpl_st rfl 26 (.tmp 4) (.tmp 20) rfl w.heap.size 0 rfl #[.bool false, .int .u64 0, .int .u64 (L : Int)] rfl hg2 (show 0 + 3 ≤ 3 by omega) (by kernel_rfl) (ad1 _ _ _) fun w4 hg4 g4 => ?_
    rw [putA_whole _ _ (by rfl)] at hg4
    have hB4 := hB2.trans (below_grown g4 hB2.size (Nat.le_refl _))
    clear g4 hg2 hB2 hc4 hb2
    have hc9 := blk_cell hg4
    replace hB4 := hide hB4
    refine wpList_nil ?_
    go_wp2_with fail
    exact bodyPost_ret (v := .agg #[.bool false, .int .u64 0, .int .u64 (L : Int)]) (by simp [results, Try.results53, go_sem, hc9]) rfl ⟨by rw [hv]; rfl, hB4.out⟩
end Gen35
end Go.Proofs.Ytfmmmjaficbchaa
/- gen: the next flow of traffic: the code's and the document's. Conditions: a plan that may be. -/
namespace Go.Proofs.Ytfmmmjaficbchaa
open Go.RowKit Go.ChangeShapes Go.WideShapes Go.ChangeAt Go.Deep
namespace Gen35
open Mix (mixN belN mixN_lt)
open Pkt (tuA tuA_one tuZ size_tu)
def flowP (p : PlanL) (n q : Nat) : Array Value := tuA p.pr p.v6 (srcHi p : Int) (srcLo p n : Int) p.v6 (p.hi : Int) (p.lo : Int) (q : Int) p.vp
/-- The next flow of a plan, by the state of the numbers. -/
def flowT (p : PlanL) (a : Nat) : Array Value := flowP p (belN (mixN (stepN a)) p.cl.toNat) (32768 + belN (mixN (stepN (stepN a))) p.po.toNat)
set_option maxRecDepth 20000 in
set_option maxHeartbeats 8000000 in
theorem flow_any (s g a : Nat) (p : PlanL) (ov : Value) (hR : rightQ p) (hne : g ≠ s) (w : World) (hs : SrcAt w s g p ov) (hg : GenAt w g a) :
    Calls Try.prog 27 #[.pointer (some ⟨s, 0, none⟩)] w fun e w' => e = .returned (.agg (flowT p a)) ∧ GenAt w' g (stepN (stepN a)) ∧ w.grownBy w' (some g) := by
  obtain ⟨r1, r2, r3, r4, r5, r6, r7, r8, r9, r10⟩ := hR
  obtain ⟨w1, hw1⟩ : ∃ w1, w.alloc (.cells #[.int .i64 0, .bool false, .int .u64 0, .int .u64 0, .bool false, .int .u64 0, .int .u64 0, .int .i64 0, .int .i64 0] 32) = w1 := ⟨_, rfl⟩
  have hb1 : Below w.heap.size w w1 := hw1 ▸ (Below.refl _ _).alloc (Nat.le_refl _) _
  have hr : w1.heap[w.heap.size]? = some (.cells #[.int .i64 0, .bool false, .int .u64 0, .int .u64 0, .bool false, .int .u64 0, .int .u64 0, .int .i64 0, .int .i64 0] 32 (0, 0)) := hw1 ▸ blk_new _ _ _
  have zg : g < w.heap.size := blk_lt hg
  have zs : s < w.heap.size := blk_lt hs
  have hG : w.grownBy w1 (some g) := grownBy_of hb1
  replace hs := blk_on hb1 hs
  replace hg := blk_on hb1 hg
  have l1 := stepN_lt a
  have l2 := stepN_lt (stepN a)
  obtain ⟨a1, ha1⟩ : ∃ a1, stepN a = a1 := ⟨_, rfl⟩
  obtain ⟨a2, ha2⟩ : ∃ a2, stepN a1 = a2 := ⟨_, rfl⟩
  have m1 := mixN_lt a1
  have m2 := mixN_lt a2
  have n1 := Mix.belN_lt (mixN a1) p.cl.toNat m1 (by omega)
  have n2 := Mix.belN_lt (mixN a2) p.po.toNat m2 (by omega)
  have hNx := fun w hg => next_any g a w hg
  have hNx2 := fun w hg => next_any g a1 w hg
  rw [ha1] at hNx
  rw [ha2] at hNx2
  unfold flowT
  rw [ha1, ha2]
  obtain ⟨x1, hx1⟩ : ∃ x, mixN a1 = x := ⟨_, rfl⟩
  obtain ⟨x2, hx2⟩ : ∃ x, mixN a2 = x := ⟨_, rfl⟩
  rw [hx1] at m1 n1 hNx ⊢
  rw [hx2] at m2 n2 hNx2 ⊢
  have hBe := fun w => Mix.below_any x1 p.cl m1 (by omega) w
  have hBe2 := fun w => Mix.below_any x2 p.po m2 (by omega) w
  obtain ⟨n, hn⟩ : ∃ n, belN x1 p.cl.toNat = n := ⟨_, rfl⟩
  obtain ⟨q, hq⟩ : ∃ n, belN x2 p.po.toNat = n := ⟨_, rfl⟩
  rw [hn] at n1 hBe ⊢
  rw [hq] at n2 hBe2 ⊢
  obtain ⟨Q, hQ⟩ : ∃ Q, 32768 + q = Q := ⟨_, rfl⟩
  rw [hQ]
  have q1 : IntKind.i64.wrap (32768 + (q : Int)) = (Q : Int) := by rw [wraps62 _ (by omega) (by omega)]; omega
  have hn5 : n ≤ 65535 := by omega
  clear l1 l2 hb1
  replace hs := hide hs
  replace hg := hide hg
  replace hr := hide hr
  replace hG := hide hG
  replace hNx := hide hNx
  replace hNx2 := hide hNx2
  replace hBe := hide hBe
  replace hBe2 := hide hBe2
  replace hn := hide hn
  replace hq := hide hq
  replace hQ := hide hQ
  replace ha1 := hide ha1
  replace ha2 := hide ha2
  replace hx1 := hide hx1
  replace hx2 := hide hx2
  replace hn5 := hide hn5
  go_enter Try.func27, Try.ntmps27
  go_upto_region 1 with fail
  clear hw1
  have hz1 := hG.out.size
  go_wp2_with fail
  refine (none_src s g p ov _ hs.out).mono ?_
  rintro e w2 ⟨rfl, rfl⟩
  go_upto_region 3 with fail
  refine wp_region_X (KeptS w1.heap.size (fun k => k = g)) (by as_aux_lemma => kernel_rfl) ?_
  intro wd hbd
  have hsd := blk_on hbd hs.out
  have hgd := blk_on hbd hg.out
  have hrd := blk_on hbd hr.out
  have hcL := fun (l : RelW (KeptS w1.heap.size (fun k => k = g)) wd) (o : Nat) => blk_cell ((l.hk.block s (by omega) (fun h => hne h.symm)).trans hsd) o
  unfold srcA at hcL
  have zd := hbd.size
  refine wpX_seg (KeptS w1.heap.size (fun k => k = g)) 0 4 (fuel := 8) (by as_aux_lemma => kernel_rfl) (fun d _ _ _ _ h => by cases d <;> exact h) (by as_aux_lemma => kernel_rfl) (by as_aux_lemma => kernel_rfl) ?_
  simp only [List.drop_zero, List.take_succ_cons, List.take_zero]
  iterate 4 (refine wpQX_step (fun K hK => ?_); go_simp; refine hK _ ?_; clear hK K)
  refine wpQF_nil ?_
  refine wpX_seg (KeptS w1.heap.size (fun k => k = g)) 5 5 (fuel := 3) (by as_aux_lemma => kernel_rfl) (fun d _ _ _ _ h => by cases d <;> exact h) (by as_aux_lemma => kernel_rfl) (by as_aux_lemma => kernel_rfl) ?_
  simp only [List.drop_succ_cons, List.drop_zero, List.take_succ_cons, List.take_zero]
  iterate 5 (refine wpQX_step (fun K hK => ?_); go_simp; refine hK _ ?_; clear hK K)
  refine wpQF_nil ?_
  clear hcL
  refine wpF_step 4 rfl (by as_aux_lemma => kernel_rfl) (fun K hK => ?_)
  go_simp
  go_at_call 30
  refine (hNx.out _ hgd).mono ?_
  rintro e w3 ⟨rfl, hg3, g3⟩
  refine hK _ _ (Pkt.keptS_grown1 g3 zd rfl) ?_
  clear hK K
  replace hG := hide (grown_trans' _ _ _ (grown_trans' _ _ _ hG.out (grown_of_below hbd)) g3)
  replace hs := hide (grown_other g3 (by omega) (Ne.symm hne) hsd)
  replace hr := hide (grown_other g3 (blk_lt hrd) (by omega) hrd)
  replace hg := hide hg3
  clear hg3 g3 hsd hrd hgd hbd zd hz1
  have hz3 := hG.out.size
  refine wpF_step 10 rfl (by as_aux_lemma => kernel_rfl) (fun K hK => ?_)
  go_simp
  go_at_call 49
  refine (hBe.out _).mono ?_
  rintro e w4 ⟨rfl, rfl⟩
  refine hK _ _ (IsRel.refl _) ?_
  clear hK K
  refine wpF_step 11 rfl (by as_aux_lemma => kernel_rfl) (fun K hK => ?_)
  go_simp
  refine hK _ _ (IsRel.refl _) ?_
  clear hK K
  refine wpF_done (by as_aux_lemma => kernel_rfl) ?_ 0
  go_upto_region 4 with fail
  refine wp_region_X (KeptS w3.heap.size (fun k => k = g)) (by as_aux_lemma => kernel_rfl) ?_
  intro wd hbd
  have hsd := blk_on hbd hs.out
  have hgd := blk_on hbd hg.out
  have hrd := blk_on hbd hr.out
  have hcL := fun (l : RelW (KeptS w3.heap.size (fun k => k = g)) wd) (o : Nat) => blk_cell ((l.hk.block s (by omega) (fun h => hne h.symm)).trans hsd) o
  unfold srcA at hcL
  have zd := hbd.size
  have zr : w.heap.size < wd.heap.size := blk_lt hrd
  refine wpX_seg (KeptS w3.heap.size (fun k => k = g)) 0 4 (fuel := 9) (by as_aux_lemma => kernel_rfl) (fun d _ _ _ _ h => by cases d <;> exact h) (by as_aux_lemma => kernel_rfl) (by as_aux_lemma => kernel_rfl) ?_
  simp only [List.drop_zero, List.take_succ_cons, List.take_zero]
  iterate 4 (refine wpQX_step (fun K hK => ?_); go_simp; refine hK _ ?_; clear hK K)
  refine wpQF_nil ?_
  refine wpX_seg (KeptS w3.heap.size (fun k => k = g)) 5 5 (fuel := 4) (by as_aux_lemma => kernel_rfl) (fun d _ _ _ _ h => by cases d <;> exact h) (by as_aux_lemma => kernel_rfl) (by as_aux_lemma => kernel_rfl) ?_
  simp only [List.drop_succ_cons, List.drop_zero, List.take_succ_cons, List.take_zero]
  iterate 5 (refine wpQX_step (fun K hK => ?_); go_simp; refine hK _ ?_; clear hK K)
  refine wpQF_nil ?_
  clear hcL
  refine wpF_step 4 rfl (by as_aux_lemma => kernel_rfl) (fun K hK => ?_)
  go_simp
  go_at_call 30
  refine (hNx2.out _ hgd).mono ?_
  rintro e w5 ⟨rfl, hg3, g3⟩
  refine hK _ _ (Pkt.keptS_grown1 g3 zd rfl) ?_
  clear hK K
  replace hG := hide (grown_trans' _ _ _ (grown_trans' _ _ _ hG.out (grown_of_below hbd)) g3)
  replace hs := hide (grown_other g3 (by omega) (Ne.symm hne) hsd)
  replace hr := hide (grown_other g3 (blk_lt hrd) (by omega) hrd)
  replace hg := hide hg3
  clear hg3 g3 hsd hrd hgd hbd zd hz3 zr
  have hz5 := hG.out.size
  refine wpF_step 10 rfl (by as_aux_lemma => kernel_rfl) (fun K hK => ?_)
  go_simp
  go_at_call 49
  refine (hBe2.out _).mono ?_
  rintro e w6 ⟨rfl, rfl⟩
  refine hK _ _ (IsRel.refl _) ?_
  clear hK K
  refine wpF_step 11 rfl (by as_aux_lemma => kernel_rfl) (fun K hK => ?_)
  go_simp
  refine hK _ _ (IsRel.refl _) ?_
  clear hK K
  refine wpF_step 12 rfl (by as_aux_lemma => kernel_rfl) (fun K hK => ?_)
  go_simp
  refine hK _ _ (IsRel.refl _) ?_
  clear hK K
  refine wpF_done (by as_aux_lemma => kernel_rfl) ?_ 0
  have zv : w.heap.size < w5.heap.size := blk_lt hr.out
  go_upto_region 5 with fail
  have hc := blk_cell hs.out
  unfold srcA at hc
  apply wp_region_lit
  iterate 5 (refine wpList_plain rfl fun K hK => ?_; go_simp; refine hK _ _ ?_; clear hK K)
  refine wpl_new rfl rfl 49 _ (alloc_vip _ rfl) 5 rfl (.tmp 36) rfl _ (fun _ => rfl) (fun _ => rfl) (by rfl) (by kernel_rfl) (vipA_one _ _ _ _ _ _ _) ?_
  intro w7 hv7 hb7 hz7
  refine wpList_nil ?_
  clear hc
  replace hG := hide (grown_trans' _ _ _ hG.out (grown_of_below hb7))
  replace hs := hide (blk_on hb7 hs.out)
  replace hr := hide (blk_on hb7 hr.out)
  replace hg := hide (blk_on hb7 hg.out)
  replace hv7 := hide hv7
  clear hb7
  go_upto_region 6 with fail
  refine wp_region_X (KeptS w7.heap.size (fun k => k = w.heap.size)) (by as_aux_lemma => kernel_rfl) ?_
  intro wd hbd
  have hsd := blk_on hbd hs.out
  have hgd := blk_on hbd hg.out
  have hrd := blk_on hbd hr.out
  have hvd := blk_on hbd hv7.out
  have zd := hbd.size
  have hcL := fun (l : RelW (KeptS w7.heap.size (fun k => k = w.heap.size)) wd) (o : Nat) => blk_cell ((l.hk.block w5.heap.size hz7 (by omega)).trans hvd) o
  refine wpX_seg (KeptS w7.heap.size (fun k => k = w.heap.size)) 0 4 (fuel := 8) (by as_aux_lemma => kernel_rfl) (fun d _ _ _ _ h => by cases d <;> exact h) (by as_aux_lemma => kernel_rfl) (by as_aux_lemma => kernel_rfl) ?_
  simp only [List.drop_zero, List.take_succ_cons, List.take_zero]
  iterate 4 (refine wpQX_step (fun K hK => ?_); go_simp; refine hK _ ?_; clear hK K)
  refine wpQF_nil ?_
  refine wpX_seg (KeptS w7.heap.size (fun k => k = w.heap.size)) 5 5 (fuel := 3) (by as_aux_lemma => kernel_rfl) (fun d _ _ _ _ h => by cases d <;> exact h) (by as_aux_lemma => kernel_rfl) (by as_aux_lemma => kernel_rfl) ?_
  simp only [List.drop_succ_cons, List.drop_zero, List.take_succ_cons, List.take_zero]
  iterate 5 (refine wpQX_step (fun K hK => ?_); go_simp; refine hK _ ?_; clear hK K)
  refine wpQF_nil ?_
  clear hcL hvd
  refine wpF_step 4 rfl (by as_aux_lemma => kernel_rfl) (fun K hK => ?_)
  go_simp
  go_at_call 53
  refine (client_any s g p ov n hn5.out _ hsd).mono ?_
  rintro e w8 ⟨rfl, hb8⟩
  refine hK _ _ (keptS_of_below hb8 zd) ?_
  clear hK K
  have hr8 := blk_on hb8 hrd
  have hg8 := blk_on hb8 hgd
  have hG8 := grown_trans' _ _ _ (grown_trans' _ _ _ hG.out (grown_of_below hbd)) (grown_of_below hb8)
  have z8 := hb8.size
  clear hsd hrd hgd hbd hb8
  refine wpF_step 10 rfl (by as_aux_lemma => kernel_rfl) (fun K hK => ?_)
  go_simp
  refine hK _ _ (IsRel.refl _) ?_
  clear hK K
  refine wpF_st 11 rfl (by as_aux_lemma => kernel_rfl) rfl 32 (.tmp 2) (.tmp 47) rfl w.heap.size 0 rfl (flowP p n Q) rfl hr8 (show 0 + 9 ≤ 9 by omega) size_tu (tuA_one _ _ _ _ _ _ _ _ _) fun w9 hg9 g9 => ?_
  rw [putA_whole _ _ (by rfl)] at hg9
  refine ⟨Pkt.keptS_grown1 g9 (by omega) rfl, ?_⟩
  have hGE := grownBy_far hG8 g9 (Nat.le_refl _)
  have hgE := grown_other g9 (blk_lt hg8) (by omega) hg8
  clear g9 hr8 hg8 hG8
  have hld : (loadVar 32 ⟨w.heap.size, 0, none⟩).run Try.prog w9 = .ok (.agg (flowP p n Q)) w9 := by
    simpa using run_loadVar_mid w9 w.heap.size 0 32 (flowP p n Q).toList _ (blk_range hg9) Try.underlying32 rfl (by kernel_rfl)
  replace hGE := hide hGE
  replace hgE := hide hgE
  replace hld := hide hld
  replace hg9 := hide hg9
  refine wpF_done (by as_aux_lemma => kernel_rfl) ?_ 0
  go_wp2_with fail
  exact bodyPost_ret (v := .agg (flowP p n Q)) (by dsimp only [Act.put]; simp [results, Try.results27, asAddr, hld.out, Result.andThen]) rfl ⟨rfl, hgE.out, hGE.out⟩
end Gen35
end Go.Proofs.Ytfmmmjaficbchaa
/- gen: the document's next flow of traffic. Conditions: a plan that may be. -/
namespace Go.Proofs.Ytfmmmjaficbchaa
open Go.RowKit Go.ChangeShapes Go.WideShapes Go.ChangeAt Go.Deep
namespace Gen35
open Mix (mixN belN mixN_lt)
open Pkt (tuA tuA_one tuZ size_tu)
theorem alloc_ad (o : Oper) (h : o.op = .alloc 26) (ρ : Operand → Value) (w : World) : (execOp ρ o).run Try.prog w = .ok (.value (.pointer (some ⟨w.heap.size, 0, none⟩))) (w.alloc (.cells #[.bool false, .int .u64 0, .int .u64 0] 26)) := by
  obtain ⟨d, op, t, ps, af, g⟩ := o
  dsimp only at h
  subst h
  kernel_rfl
theorem plaA_but (p : PlanL) (a b : Nat) (ov : Value) (j : Nat) (hj : j ≠ 11) : (plaA p b ov)[j]? = (plaA p a ov)[j]? := by
  unfold plaA
  match j, hj with
  | 0, _ => rfl
  | 1, _ => rfl
  | 2, _ => rfl
  | 3, _ => rfl
  | 4, _ => rfl
  | 5, _ => rfl
  | 6, _ => rfl
  | 7, _ => rfl
  | 8, _ => rfl
  | 9, _ => rfl
  | 10, _ => rfl
  | 12, _ => rfl
  | n + 13, _ => rfl
set_option maxRecDepth 20000 in
set_option maxHeartbeats 8000000 in
theorem lflow_any (x a : Nat) (p : PlanL) (ov : Value) (hR : rightQ p) (w : World) (hx : PlaAt w x p a ov) :
    Calls Try.prog 28 #[.pointer (some ⟨x, 0, none⟩)] w fun e w' => e = .returned (.agg (flowT p a)) ∧ PlaAt w' x p (stepN (stepN a)) ov ∧ w.grownBy w' (some x) := by
  obtain ⟨r1, r2, r3, r4, r5, r6, r7, r8, r9, r10⟩ := hR
  obtain ⟨w1, hw1⟩ : ∃ w1, w.alloc (.cells #[.int .i64 0, .bool false, .int .u64 0, .int .u64 0, .bool false, .int .u64 0, .int .u64 0, .int .i64 0, .int .i64 0] 32) = w1 := ⟨_, rfl⟩
  have hb1 : Below w.heap.size w w1 := hw1 ▸ (Below.refl _ _).alloc (Nat.le_refl _) _
  have hr : w1.heap[w.heap.size]? = some (.cells #[.int .i64 0, .bool false, .int .u64 0, .int .u64 0, .bool false, .int .u64 0, .int .u64 0, .int .i64 0, .int .i64 0] 32 (0, 0)) := hw1 ▸ blk_new _ _ _
  have zx : x < w.heap.size := blk_lt hx
  have hG : w.grownBy w1 (some x) := grownBy_of hb1
  replace hx := blk_on hb1 hx
  have l1 := stepN_lt a
  have l2 := stepN_lt (stepN a)
  obtain ⟨a1, ha1⟩ : ∃ a1, stepN a = a1 := ⟨_, rfl⟩
  obtain ⟨a2, ha2⟩ : ∃ a2, stepN a1 = a2 := ⟨_, rfl⟩
  have m1 := mixN_lt a1
  have m2 := mixN_lt a2
  have n1 := Mix.belN_lt (mixN a1) p.cl.toNat m1 (by omega)
  have n2 := Mix.belN_lt (mixN a2) p.po.toNat m2 (by omega)
  have hNx := fun w hg => lnext_any x a p ov w hg
  have hNx2 := fun w hg => lnext_any x a1 p ov w hg
  rw [ha1] at hNx
  rw [ha2] at hNx2
  unfold flowT
  rw [ha1, ha2]
  obtain ⟨x1, hx1⟩ : ∃ x, mixN a1 = x := ⟨_, rfl⟩
  obtain ⟨x2, hx2⟩ : ∃ x, mixN a2 = x := ⟨_, rfl⟩
  rw [hx1] at m1 n1 hNx ⊢
  rw [hx2] at m2 n2 hNx2 ⊢
  have hBe := fun w => Mix.refBelow_any x1 p.cl m1 (by omega) w
  have hBe2 := fun w => Mix.refBelow_any x2 p.po m2 (by omega) w
  obtain ⟨n, hn⟩ : ∃ n, belN x1 p.cl.toNat = n := ⟨_, rfl⟩
  obtain ⟨q, hq⟩ : ∃ n, belN x2 p.po.toNat = n := ⟨_, rfl⟩
  rw [hn] at n1 hBe ⊢
  rw [hq] at n2 hBe2 ⊢
  obtain ⟨Q, hQ⟩ : ∃ Q, 32768 + q = Q := ⟨_, rfl⟩
  rw [hQ]
  have q1 : IntKind.i64.wrap (32768 + (q : Int)) = (Q : Int) := by rw [wraps62 _ (by omega) (by omega)]; omega
  have hn5 : n ≤ 65535 := by omega
  have q2 : IntKind.u64.wrap (n : Int) = (n : Int) := by rw [IntKind.wrap_u64]; omega
  obtain ⟨L4, hL4⟩ : ∃ L, 167772161 + n = L := ⟨_, rfl⟩
  obtain ⟨L6, hL6⟩ : ∃ L, n + 1 = L := ⟨_, rfl⟩
  have q3 : IntKind.u64.wrap (167772161 + (n : Int)) = (L4 : Int) := by rw [IntKind.wrap_u64]; omega
  have q4 : IntKind.u64.wrap ((n : Int) + 1) = (L6 : Int) := by rw [IntKind.wrap_u64]; omega
  clear l1 l2 hb1
  replace hx := hide hx
  replace hr := hide hr
  replace hG := hide hG
  replace hNx := hide hNx
  replace hNx2 := hide hNx2
  replace hBe := hide hBe
  replace hBe2 := hide hBe2
  replace hn := hide hn
  replace hq := hide hq
  replace hQ := hide hQ
  replace ha1 := hide ha1
  replace ha2 := hide ha2
  replace hx1 := hide hx1
  replace hx2 := hide hx2
  replace hn5 := hide hn5
  replace hL4 := hide hL4
  replace hL6 := hide hL6
  go_enter Try.func28, Try.ntmps28
  go_upto_region 1 with fail
  clear hw1
  have hz1 := hG.out.size
  refine wp_region_X (KeptC w1.heap.size (fun k => k = x) (butCell x 11)) (by as_aux_lemma => kernel_rfl) ?_
  intro wd hbd
  have hxd := blk_on hbd hx.out
  have hrd := blk_on hbd hr.out
  have hcx := blk_cell hxd
  have hcL := fun (l : RelW (KeptC w1.heap.size (fun k => k = x) (butCell x 11)) wd) (o : Nat) (ho : o ≠ 11) => l.cellC (hcx o) ⟨o, rfl, ho⟩
  have hc1 := fun l => hcL l 1 (by omega)
  clear hcL hcx
  unfold plaA at hc1
  have zd := hbd.size
  refine wpX_seg (KeptC w1.heap.size (fun k => k = x) (butCell x 11)) 0 1 (fuel := 8) (by as_aux_lemma => kernel_rfl) (fun d _ _ _ _ h => by cases d <;> exact h) (by as_aux_lemma => kernel_rfl) (by as_aux_lemma => kernel_rfl) ?_
  simp only [List.drop_zero, List.take_succ_cons, List.take_zero]
  iterate 1 (refine wpQX_step (fun K hK => ?_); go_simp; refine hK _ ?_; clear hK K)
  refine wpQF_nil ?_
  refine wpX_seg (KeptC w1.heap.size (fun k => k = x) (butCell x 11)) 2 5 (fuel := 3) (by as_aux_lemma => kernel_rfl) (fun d _ _ _ _ h => by cases d <;> exact h) (by as_aux_lemma => kernel_rfl) (by as_aux_lemma => kernel_rfl) ?_
  simp only [List.drop_succ_cons, List.drop_zero, List.take_succ_cons, List.take_zero]
  iterate 5 (refine wpQX_step (fun K hK => ?_); go_simp; refine hK _ ?_; clear hK K)
  refine wpQF_nil ?_
  clear hc1
  refine wpF_step 1 rfl (by as_aux_lemma => kernel_rfl) (fun K hK => ?_)
  go_simp
  go_at_call 52
  refine (hNx.out _ hxd).mono ?_
  rintro e w3 ⟨rfl, hg3, g3⟩
  refine hK _ _ (keptC_cells g3 zd hxd hg3 (plaA_but p a a1 ov)) ?_
  clear hK K
  replace hG := hide (grown_trans' _ _ _ (grown_trans' _ _ _ hG.out (grown_of_below hbd)) g3)
  replace hr := hide (grown_other g3 (blk_lt hrd) (by omega) hrd)
  replace hx := hide hg3
  clear hg3 g3 hxd hrd hbd zd hz1
  have hz3 := hG.out.size
  refine wpF_step 7 rfl (by as_aux_lemma => kernel_rfl) (fun K hK => ?_)
  go_simp
  go_at_call 51
  refine (hBe.out _).mono ?_
  rintro e w4 ⟨rfl, rfl⟩
  refine hK _ _ (IsRel.refl _) ?_
  clear hK K
  refine wpF_step 8 rfl (by as_aux_lemma => kernel_rfl) (fun K hK => ?_)
  go_simp
  refine hK _ _ (IsRel.refl _) ?_
  clear hK K
  refine wpF_done (by as_aux_lemma => kernel_rfl) ?_ 0
  go_upto_region 2 with fail
  refine wp_region_X (KeptC w3.heap.size (fun k => k = x) (butCell x 11)) (by as_aux_lemma => kernel_rfl) ?_
  intro wd hbd
  have hxd := blk_on hbd hx.out
  have hrd := blk_on hbd hr.out
  have hcx := blk_cell hxd
  have hcL := fun (l : RelW (KeptC w3.heap.size (fun k => k = x) (butCell x 11)) wd) (o : Nat) (ho : o ≠ 11) => l.cellC (hcx o) ⟨o, rfl, ho⟩
  have hc2 := fun l => hcL l 2 (by omega)
  clear hcL hcx
  unfold plaA at hc2
  have zd := hbd.size
  refine wpX_seg (KeptC w3.heap.size (fun k => k = x) (butCell x 11)) 0 1 (fuel := 9) (by as_aux_lemma => kernel_rfl) (fun d _ _ _ _ h => by cases d <;> exact h) (by as_aux_lemma => kernel_rfl) (by as_aux_lemma => kernel_rfl) ?_
  simp only [List.drop_zero, List.take_succ_cons, List.take_zero]
  iterate 1 (refine wpQX_step (fun K hK => ?_); go_simp; refine hK _ ?_; clear hK K)
  refine wpQF_nil ?_
  refine wpX_seg (KeptC w3.heap.size (fun k => k = x) (butCell x 11)) 2 5 (fuel := 4) (by as_aux_lemma => kernel_rfl) (fun d _ _ _ _ h => by cases d <;> exact h) (by as_aux_lemma => kernel_rfl) (by as_aux_lemma => kernel_rfl) ?_
  simp only [List.drop_succ_cons, List.drop_zero, List.take_succ_cons, List.take_zero]
  iterate 5 (refine wpQX_step (fun K hK => ?_); go_simp; refine hK _ ?_; clear hK K)
  refine wpQF_nil ?_
  clear hc2
  refine wpF_step 1 rfl (by as_aux_lemma => kernel_rfl) (fun K hK => ?_)
  go_simp
  go_at_call 52
  refine (hNx2.out _ hxd).mono ?_
  rintro e w5 ⟨rfl, hg3, g3⟩
  refine hK _ _ (keptC_cells g3 zd hxd hg3 (plaA_but p a1 a2 ov)) ?_
  clear hK K
  replace hG := hide (grown_trans' _ _ _ (grown_trans' _ _ _ hG.out (grown_of_below hbd)) g3)
  replace hr := hide (grown_other g3 (blk_lt hrd) (by omega) hrd)
  replace hx := hide hg3
  clear hg3 g3 hxd hrd hbd zd hz3
  have hz5 := hG.out.size
  refine wpF_step 7 rfl (by as_aux_lemma => kernel_rfl) (fun K hK => ?_)
  go_simp
  go_at_call 51
  refine (hBe2.out _).mono ?_
  rintro e w6 ⟨rfl, rfl⟩
  refine hK _ _ (IsRel.refl _) ?_
  clear hK K
  refine wpF_step 8 rfl (by as_aux_lemma => kernel_rfl) (fun K hK => ?_)
  go_simp
  refine hK _ _ (IsRel.refl _) ?_
  clear hK K
  refine wpF_step 9 rfl (by as_aux_lemma => kernel_rfl) (fun K hK => ?_)
  go_simp
  refine hK _ _ (IsRel.refl _) ?_
  clear hK K
  refine wpF_done (by as_aux_lemma => kernel_rfl) ?_ 0
  have zv : w.heap.size < w5.heap.size := blk_lt hr.out
  go_upto_region 3 with fail
  apply wp_region_lit
  iterate 4 (refine wpList_plain rfl fun K hK => ?_; go_simp; refine hK _ _ ?_; clear hK K)
  refine wpl_new rfl rfl 26 _ (alloc_ad _ rfl) 5 rfl (.tmp 26) rfl _ (fun _ => rfl) (fun _ => rfl) (by rfl) (by kernel_rfl) (ad1 _ _ _) ?_
  intro w7 hv7 hb7 hz7
  refine wpList_nil ?_
  replace hG := hide (grown_trans' _ _ _ hG.out (grown_of_below hb7))
  replace hx := hide (blk_on hb7 hx.out)
  replace hr := hide (blk_on hb7 hr.out)
  clear hb7
  have hcx := blk_cell hx.out
  unfold plaA at hcx
  replace hv7 := hide hv7
  go_upto_if 33 with fail
  go_cut [5] (fun av wx => av = .pointer (some ⟨w5.heap.size, 0, none⟩) ∧ wx.heap[w5.heap.size]? = some (.cells #[.bool p.v6, .int .u64 (srcHi p : Int), .int .u64 (srcLo p n : Int)] 26 (0, 0)) ∧ w7.grownBy wx (some w5.heap.size))
  case first =>
    cases hv : p.v6 with
    | true =>
      rw [hv] at hcx
      go_upto_region 5 with fail
      clear hcx
      apply wp_region_lit
      iterate 4 (refine wpList_plain rfl fun K hK => ?_; go_simp; refine hK _ _ ?_; clear hK K)
      refine wpl_st rfl 26 (.tmp 5) (.tmp 37) rfl w5.heap.size 0 rfl #[.bool true, .int .u64 2306139568115548160, .int .u64 (L6 : Int)] rfl hv7.out (show 0 + 3 ≤ 3 by omega) (by kernel_rfl) (ad1 _ _ _) fun w8 hg8 g8 => ?_
      rw [putA_whole _ _ (by rfl)] at hg8
      refine wpList_nil ?_
      go_wp2_with fail
      go_meet
      refine ⟨rfl, ?_, g8⟩
      rw [hg8]
      unfold srcHi srcLo
      rw [hv, if_pos rfl, if_pos rfl, hL6.out]
      rfl
    | false =>
      rw [hv] at hcx
      go_wp2_with fail
      go_meet
      refine ⟨rfl, ?_, grown_refl _ _⟩
      rw [hv7.out]
      unfold srcHi srcLo
      rw [hv]
      simp only [Bool.false_eq_true, if_false]
      rw [hL4.out]
      rfl
  case rest =>
  obtain ⟨rfl, hv9, g9⟩ := hcut
  clear hcx
  have hx9 := grown_other g9 (blk_lt hx.out) (by omega) hx.out
  have hr9 := grown_other g9 (blk_lt hr.out) (by omega) hr.out
  have hG9 := grownBy_far hG.out g9 (by omega)
  have z9 := g9.size
  clear hx hr hG hv7 g9
  replace hx9 := hide hx9
  replace hr9 := hide hr9
  replace hG9 := hide hG9
  replace hv9 := hide hv9
  go_upto_region 6 with fail
  refine wp_region_X (KeptS wc.heap.size (fun k => k = w.heap.size)) (by as_aux_lemma => kernel_rfl) ?_
  intro wd hbd
  have hxd := blk_on hbd hx9.out
  have hrd := blk_on hbd hr9.out
  have hvd := blk_on hbd hv9.out
  have zd := hbd.size
  have hcL := fun (l : RelW (KeptS wc.heap.size (fun k => k = w.heap.size)) wd) (o : Nat) => blk_cell ((l.hk.block x (by omega) (by omega)).trans hxd) o
  have hcV := fun (l : RelW (KeptS wc.heap.size (fun k => k = w.heap.size)) wd) (o : Nat) => blk_cell ((l.hk.block w5.heap.size (by omega) (by omega)).trans hvd) o
  unfold plaA at hcL
  refine wpX_seg (KeptS wc.heap.size (fun k => k = w.heap.size)) 0 21 (fuel := 1) (by as_aux_lemma => kernel_rfl) (fun d _ _ _ _ h => by cases d <;> exact h) (by as_aux_lemma => kernel_rfl) (by as_aux_lemma => kernel_rfl) ?_
  simp only [List.drop_zero, List.take_succ_cons, List.take_zero]
  iterate 21 (refine wpQX_step (fun K hK => ?_); go_simp; refine hK _ ?_; clear hK K)
  refine wpQF_nil ?_
  clear hcL hcV
  refine wpF_st 21 rfl (by as_aux_lemma => kernel_rfl) rfl 32 (.tmp 2) (.tmp 58) rfl w.heap.size 0 rfl (flowP p n Q) rfl hrd (show 0 + 9 ≤ 9 by omega) size_tu (tuA_one _ _ _ _ _ _ _ _ _) fun w10 hg10 g10 => ?_
  rw [putA_whole _ _ (by rfl)] at hg10
  refine ⟨Pkt.keptS_grown1 g10 (by omega) rfl, ?_⟩
  have hGE := grownBy_far (grown_trans' _ _ _ hG9.out (grown_of_below hbd)) g10 (Nat.le_refl _)
  have hxE := grown_other g10 (blk_lt hxd) (by omega) hxd
  clear g10 hrd hvd hxd hbd
  have hld : (loadVar 32 ⟨w.heap.size, 0, none⟩).run Try.prog w10 = .ok (.agg (flowP p n Q)) w10 := by
    simpa using run_loadVar_mid w10 w.heap.size 0 32 (flowP p n Q).toList _ (blk_range hg10) Try.underlying32 rfl (by kernel_rfl)
  replace hGE := hide hGE
  replace hxE := hide hxE
  replace hld := hide hld
  replace hg10 := hide hg10
  refine wpF_done (by as_aux_lemma => kernel_rfl) ?_ 0
  go_wp2_with fail
  exact bodyPost_ret (v := .agg (flowP p n Q)) (by dsimp only [Act.put]; simp [results, Try.results28, asAddr, hld.out, Result.andThen]) rfl ⟨rfl, hxE.out, hGE.out⟩
end Gen35
end Go.Proofs.Ytfmmmjaficbchaa
/- gen: the next bytes of traffic: the code's and the document's. Conditions: a plan that may be. -/
namespace Go.Proofs.Ytfmmmjaficbchaa
open Go.RowKit Go.ChangeShapes Go.WideShapes Go.ChangeAt Go.Deep
namespace Gen35
open Mix (mixN belN mixN_lt)
def stepK (a : Nat) : Nat → Nat
  | 0 => a
  | k + 1 => stepN (stepK a k)
def byteL (a n : Nat) : List UInt8 := (List.range n).map fun i => UInt8.ofNat (mixN (stepK a (i + 1)))
theorem byteL_length (a n : Nat) : (byteL a n).length = n := by simp [byteL]
theorem byteL_succ (a n : Nat) : byteL a (n + 1) = byteL a n ++ [UInt8.ofNat (mixN (stepK a (n + 1)))] := by simp [byteL, List.range_succ]
def bytesN (p : PlanL) (a : Nat) : Nat := belN (mixN (stepN a)) (p.mo.toNat + 1)
def bytesT (p : PlanL) (a : Nat) : List UInt8 := byteL (stepN a) (bytesN p a)
def bytesS (p : PlanL) (a : Nat) : Nat := stepK (stepN a) (bytesN p a)
theorem byte_wrap (x : Nat) : IntKind.u8.wrap (x : Int) = ((UInt8.ofNat x).toNat : Int) := by
  rw [IntKind.wrap_u8]
  simp
theorem set_row (a n k : Nat) (h : k < n) (y : UInt8) (hy : y = UInt8.ofNat (mixN (stepK a (k + 1)))) : (byteL a k ++ List.replicate (n - k) 0).set k y = byteL a (k + 1) ++ List.replicate (n - (k + 1)) 0 := by
  subst hy
  rw [byteL_succ, List.set_append_right _ _ (by rw [byteL_length]; omega), byteL_length, Nat.sub_self]
  obtain ⟨m, hm⟩ : ∃ m, n - k = m + 1 := ⟨n - k - 1, by omega⟩
  rw [hm, List.replicate_succ, List.set_cons_zero, show n - (k + 1) = m by omega, List.append_assoc]
  rfl
set_option maxRecDepth 20000 in
set_option maxHeartbeats 8000000 in
theorem bytes_any (s g a : Nat) (p : PlanL) (ov : Value) (hm0 : 0 ≤ p.mo) (hm1 : p.mo ≤ 1400) (hne : g ≠ s) (w : World) (hs : SrcAt w s g p ov) (hg : GenAt w g a) :
    Calls Try.prog 75 #[.pointer (some ⟨s, 0, none⟩)] w fun e w' => ∃ v, e = .returned v ∧ OwnB w' w.heap.size v (bytesT p a) ∧ GenAt w' g (bytesS p a) ∧ w.grownBy w' (some g) := by
  have zg : g < w.heap.size := blk_lt hg
  have zs : s < w.heap.size := blk_lt hs
  unfold bytesT bytesS bytesN
  obtain ⟨a1, ha1⟩ : ∃ a1, stepN a = a1 := ⟨_, rfl⟩
  have m1 := mixN_lt a1
  have hNx := fun w hg => next_any g a w hg
  rw [ha1] at hNx ⊢
  obtain ⟨x1, hx1⟩ : ∃ x, mixN a1 = x := ⟨_, rfl⟩
  rw [hx1] at m1 hNx ⊢
  obtain ⟨M, hM⟩ : ∃ M, p.mo.toNat + 1 = M := ⟨_, rfl⟩
  have q0 : IntKind.i64.wrap (p.mo + 1) = (M : Int) := by rw [wraps62 _ (by omega) (by omega)]; omega
  have hBe := fun w => Mix.below_any x1 (M : Int) m1 (by omega) w
  rw [Int.toNat_natCast] at hBe
  have n1 := Mix.belN_lt x1 M m1 (by omega)
  rw [hM]
  obtain ⟨n, hn⟩ : ∃ n, belN x1 M = n := ⟨_, rfl⟩
  rw [hn] at n1 hBe ⊢
  have hn5 : n ≤ 1400 := by omega
  have hG := grown_refl w (some g)
  clear hM n1
  replace hs := hide hs
  replace hg := hide hg
  replace hNx := hide hNx
  replace hBe := hide hBe
  replace hn := hide hn
  replace ha1 := hide ha1
  replace hx1 := hide hx1
  replace hG := hide hG
  go_enter Try.func75, Try.ntmps75
  go_upto_region 1 with fail
  refine wp_region_X (KeptS w.heap.size (fun k => k = g)) (by as_aux_lemma => kernel_rfl) ?_
  intro wd hbd
  have hsd := blk_on hbd hs.out
  have hgd := blk_on hbd hg.out
  have hcL := fun (l : RelW (KeptS w.heap.size (fun k => k = g)) wd) (o : Nat) => blk_cell ((l.hk.block s zs (fun h => hne h.symm)).trans hsd) o
  unfold srcA at hcL
  have zd := hbd.size
  refine wpX_seg (KeptS w.heap.size (fun k => k = g)) 0 4 (fuel := 9) (by as_aux_lemma => kernel_rfl) (fun d _ _ _ _ h => by cases d <;> exact h) (by as_aux_lemma => kernel_rfl) (by as_aux_lemma => kernel_rfl) ?_
  simp only [List.drop_zero, List.take_succ_cons, List.take_zero]
  iterate 4 (refine wpQX_step (fun K hK => ?_); go_simp; refine hK _ ?_; clear hK K)
  refine wpQF_nil ?_
  refine wpX_seg (KeptS w.heap.size (fun k => k = g)) 5 6 (fuel := 3) (by as_aux_lemma => kernel_rfl) (fun d _ _ _ _ h => by cases d <;> exact h) (by as_aux_lemma => kernel_rfl) (by as_aux_lemma => kernel_rfl) ?_
  simp only [List.drop_succ_cons, List.drop_zero, List.take_succ_cons, List.take_zero]
  iterate 6 (refine wpQX_step (fun K hK => ?_); go_simp; refine hK _ ?_; clear hK K)
  refine wpQF_nil ?_
  clear hcL hsd
  refine wpF_step 4 rfl (by as_aux_lemma => kernel_rfl) (fun K hK => ?_)
  go_simp
  go_at_call 30
  refine (hNx.out _ hgd).mono ?_
  rintro e w3 ⟨rfl, hg3, g3⟩
  refine hK _ _ (Pkt.keptS_grown1 g3 zd rfl) ?_
  clear hK K
  replace hG := hide (grown_trans' _ _ _ (grown_trans' _ _ _ hG.out (grown_of_below hbd)) g3)
  replace hg := hide hg3
  clear hg3 g3 hgd hbd zd
  refine wpF_step 11 rfl (by as_aux_lemma => kernel_rfl) (fun K hK => ?_)
  go_simp
  go_at_call 49
  refine (hBe.out _).mono ?_
  rintro e w4 ⟨rfl, rfl⟩
  refine hK _ _ (IsRel.refl _) ?_
  clear hK K
  refine wpF_step 12 rfl (by as_aux_lemma => kernel_rfl) (fun K hK => ?_)
  go_simp
  refine hK _ _ (IsRel.refl _) ?_
  clear hK K
  refine wpF_done (by as_aux_lemma => kernel_rfl) ?_ 0
  clear hNx hBe
  obtain ⟨w4, hmk, hown, hb4⟩ := make_bytes n (by omega) w3
  replace hg := hide (blk_on hb4 hg.out)
  have z3 := hG.out.size
  replace hG := hide (grown_trans' _ _ _ hG.out (grown_of_below hb4))
  replace hown := hide (hown.weaken (base' := w.heap.size) z3)
  clear hb4
  go_upto_region 3 with fail
  clear hmk
  generalize w3.heap.size = rb at hown z3 ⊢
  go_wp2_with fail
  go_loopw [22] (fun i wr => ∃ k : Nat, k ≤ n ∧ i = .int .i64 (k : Int) ∧ OwnB wr w.heap.size (.slice (some ⟨rb, 0, none⟩) n n) (byteL a1 k ++ List.replicate (n - k) 0) ∧ GenAt wr g (stepK a1 k) ∧ w.grownBy wr (some g)) (fun i _ => n - (intOf i).toNat)
  case atStart => exact ⟨0, Nat.zero_le _, rfl, by simpa [byteL] using hown.out, hg.out, hG.out⟩
  case round =>
    obtain ⟨k, hk, rfl, ho, hgr, hGr⟩ := hrel
    clear hown hg hG
    by_cases hlt : k < n
    · have q1 : (k : Int) < (n : Int) := by omega
      have q2 : (0 : Int) ≤ (k : Int) := by omega
      have hcs := blk_cell (grown_other hGr zs (Ne.symm hne) hs.out)
      have hc0 := (hcs 0).trans (show (srcA g p ov)[0]? = some (.pointer (some ⟨g, 0, none⟩)) from rfl)
      have hNx := fun w hg => next_any g (stepK a1 k) w hg
      clear hcs
      replace ho := hide ho
      replace hgr := hide hgr
      replace hGr := hide hGr
      replace hNx := hide hNx
      go_wp2_with fail
      clear hc0
      refine (hNx.out _ hgr.out).mono ?_
      rintro e w6 ⟨rfl, hg6, g6⟩
      obtain ⟨y, hy⟩ : ∃ y, UInt8.ofNat (mixN (stepK a1 (k + 1))) = y := ⟨_, rfl⟩
      have q3 : IntKind.u8.wrap ((mixN (stepN (stepK a1 k)) : Nat) : Int) = (y.toNat : Int) := by rw [← hy]; exact byte_wrap _
      have ho6 := ho.out.away g6 zg
      have hG6 := grown_trans' _ _ _ hGr.out g6
      obtain ⟨gb, cur, hgA, hgb, hgh, -⟩ := ho6.row (by omega)
      cases hgA
      have hf := blk_free hgh k
      obtain ⟨u0, -, -, hc⟩ := ho6.reads.2.2.2.byteAt (i := k) hlt
      rw [Nat.zero_add] at hc
      have ho7 := ho6.store k y
      rw [set_row a1 n k hlt y hy.symm] at ho7
      obtain ⟨w7, hw7⟩ : ∃ w7, w6.setCell ⟨rb, k, none⟩ (u8v y) = w7 := ⟨_, rfl⟩
      have g7 : w6.grownBy w7 (some rb) := hw7 ▸ grown_set (grown_refl _ _) rfl _
      rw [hw7] at ho7
      have hg7 := grown_other g7 (blk_lt hg6) (by omega) hg6
      have hG7 := grownBy_far hG6 g7 (by omega)
      clear g7 g6 hgh hG6 ho6 hg6 ho hgr hGr
      unfold u8v at hw7
      replace ho7 := hide ho7
      replace hg7 := hide hg7
      replace hG7 := hide hG7
      replace hy := hide hy
      go_wp2_with fail
      clear hw7 hc hf
      go_roundw
      case rel => exact ⟨k + 1, by omega, by go_num, ho7.out, hg7.out, hG7.out⟩
      case measure => simp [intOf]; omega
    · obtain rfl : n = k := by omega
      have q1 : ¬ (n : Int) < (n : Int) := by omega
      rw [Nat.sub_self, List.replicate_zero, List.append_nil] at ho
      clear hlt hk
      replace ho := hide ho
      replace hgr := hide hgr
      replace hGr := hide hGr
      go_wp2_with fail
      go_ret
      exact ⟨_, rfl, ho.out, hgr.out, hGr.out⟩
set_option maxRecDepth 20000 in
set_option maxHeartbeats 8000000 in
theorem lbytes_any (x a : Nat) (p : PlanL) (ov : Value) (hm0 : 0 ≤ p.mo) (hm1 : p.mo ≤ 1400) (w : World) (hx : PlaAt w x p a ov) :
    Calls Try.prog 50 #[.pointer (some ⟨x, 0, none⟩)] w fun e w' => ∃ v, e = .returned v ∧ OwnB w' w.heap.size v (bytesT p a) ∧ PlaAt w' x p (bytesS p a) ov ∧ w.grownBy w' (some x) := by
  have zx : x < w.heap.size := blk_lt hx
  unfold bytesT bytesS bytesN
  obtain ⟨a1, ha1⟩ : ∃ a1, stepN a = a1 := ⟨_, rfl⟩
  have m1 := mixN_lt a1
  have hNx := fun w hg => lnext_any x a p ov w hg
  rw [ha1] at hNx ⊢
  obtain ⟨x1, hx1⟩ : ∃ x, mixN a1 = x := ⟨_, rfl⟩
  rw [hx1] at m1 hNx ⊢
  obtain ⟨M, hM⟩ : ∃ M, p.mo.toNat + 1 = M := ⟨_, rfl⟩
  have q0 : IntKind.i64.wrap (p.mo + 1) = (M : Int) := by rw [wraps62 _ (by omega) (by omega)]; omega
  have hBe := fun w => Mix.refBelow_any x1 (M : Int) m1 (by omega) w
  rw [Int.toNat_natCast] at hBe
  have n1 := Mix.belN_lt x1 M m1 (by omega)
  rw [hM]
  obtain ⟨n, hn⟩ : ∃ n, belN x1 M = n := ⟨_, rfl⟩
  rw [hn] at n1 hBe ⊢
  have hn5 : n ≤ 1400 := by omega
  have hG := grown_refl w (some x)
  clear hM n1
  replace hx := hide hx
  replace hNx := hide hNx
  replace hBe := hide hBe
  replace hn := hide hn
  replace ha1 := hide ha1
  replace hx1 := hide hx1
  replace hG := hide hG
  go_enter Try.func50, Try.ntmps50
  go_upto_region 1 with fail
  refine wp_region_X (KeptC w.heap.size (fun k => k = x) (butCell x 11)) (by as_aux_lemma => kernel_rfl) ?_
  intro wd hbd
  have hxd := blk_on hbd hx.out
  have hcx := blk_cell hxd
  have hcL := fun (l : RelW (KeptC w.heap.size (fun k => k = x) (butCell x 11)) wd) (o : Nat) (ho : o ≠ 11) => l.cellC (hcx o) ⟨o, rfl, ho⟩
  have hc1 := fun l => hcL l 10 (by omega)
  clear hcL hcx
  unfold plaA at hc1
  have zd := hbd.size
  refine wpX_seg (KeptC w.heap.size (fun k => k = x) (butCell x 11)) 0 1 (fuel := 9) (by as_aux_lemma => kernel_rfl) (fun d _ _ _ _ h => by cases d <;> exact h) (by as_aux_lemma => kernel_rfl) (by as_aux_lemma => kernel_rfl) ?_
  simp only [List.drop_zero, List.take_succ_cons, List.take_zero]
  iterate 1 (refine wpQX_step (fun K hK => ?_); go_simp; refine hK _ ?_; clear hK K)
  refine wpQF_nil ?_
  refine wpX_seg (KeptC w.heap.size (fun k => k = x) (butCell x 11)) 2 6 (fuel := 3) (by as_aux_lemma => kernel_rfl) (fun d _ _ _ _ h => by cases d <;> exact h) (by as_aux_lemma => kernel_rfl) (by as_aux_lemma => kernel_rfl) ?_
  simp only [List.drop_succ_cons, List.drop_zero, List.take_succ_cons, List.take_zero]
  iterate 6 (refine wpQX_step (fun K hK => ?_); go_simp; refine hK _ ?_; clear hK K)
  refine wpQF_nil ?_
  clear hc1
  refine wpF_step 1 rfl (by as_aux_lemma => kernel_rfl) (fun K hK => ?_)
  go_simp
  go_at_call 52
  refine (hNx.out _ hxd).mono ?_
  rintro e w3 ⟨rfl, hg3, g3⟩
  refine hK _ _ (keptC_cells g3 zd hxd hg3 (plaA_but p a a1 ov)) ?_
  clear hK K
  replace hG := hide (grown_trans' _ _ _ (grown_trans' _ _ _ hG.out (grown_of_below hbd)) g3)
  replace hx := hide hg3
  clear hg3 g3 hxd hbd zd
  refine wpF_step 8 rfl (by as_aux_lemma => kernel_rfl) (fun K hK => ?_)
  go_simp
  go_at_call 51
  refine (hBe.out _).mono ?_
  rintro e w4 ⟨rfl, rfl⟩
  refine hK _ _ (IsRel.refl _) ?_
  clear hK K
  refine wpF_step 9 rfl (by as_aux_lemma => kernel_rfl) (fun K hK => ?_)
  go_simp
  refine hK _ _ (IsRel.refl _) ?_
  clear hK K
  refine wpF_done (by as_aux_lemma => kernel_rfl) ?_ 0
  clear hNx hBe
  go_wp2_with fail
  go_loopw [4, 5] (fun v i wr => ∃ k : Nat, k ≤ n ∧ i = .int .i64 (k : Int) ∧ OwnB wr w.heap.size v (byteL a1 k) ∧ PlaAt wr x p (stepK a1 k) ov ∧ w.grownBy wr (some x)) (fun _ i _ => n - (intOf i).toNat)
  case atStart => exact ⟨0, Nat.zero_le _, rfl, OwnB.nil _ _, hx.out, hG.out⟩
  case round =>
    obtain ⟨k, hk, rfl, ho, hgr, hGr⟩ := hrel
    clear hx hG
    by_cases hlt : k < n
    · have q1 : (k : Int) < (n : Int) := by omega
      have q2 : (0 : Int) ≤ (k : Int) := by omega
      have hNx := fun w hg => lnext_any x (stepK a1 k) p ov w hg
      replace ho := hide ho
      replace hgr := hide hgr
      replace hGr := hide hGr
      replace hNx := hide hNx
      go_wp2_with fail
      refine (hNx.out _ hgr.out).mono ?_
      rintro e w6 ⟨rfl, hg6, g6⟩
      obtain ⟨y, hy⟩ : ∃ y, UInt8.ofNat (mixN (stepK a1 (k + 1))) = y := ⟨_, rfl⟩
      have q3 : IntKind.u8.wrap ((mixN (stepN (stepK a1 k)) : Nat) : Int) = (y.toNat : Int) := by rw [← hy]; exact byte_wrap _
      have ho6 := ho.out.away g6 zx
      have hG6 := grown_trans' _ _ _ hGr.out g6
      have hlen := byteL_length a1 k
      have z6 := hG6.size
      clear ho hgr hGr g6
      replace hg6 := hide hg6
      replace hG6 := hide hG6
      replace hy := hide hy
      replace ho6 := hide ho6
      go_wp2_with (at_builtin; refine wpl_lit_bv rfl (.tmp 20) (.tmp 24) rfl w.heap.size _ (byteL a1 k) [y] _ _ rfl rfl ?_ rfl ho6.out z6 ?_ ?_)
      · rfl
      · omega
      intro v7 w7 ho7 hgw
      rw [← hy.out, ← byteL_succ] at ho7
      have hl6 := ho6.out.lt
      have g7 := hgw.grown
      have hx7 : PlaAt w7 x p (stepN (stepK a1 k)) ov := (g7.block x (blk_lt hg6.out) (fun e => by have := (hl6 x e.symm).1; omega)).trans hg6.out
      have hG7 : w.grownBy w7 (some x) := by
        refine ⟨g7.os.trans hG6.out.os, g7.tape.trans hG6.out.tape, g7.output.trans hG6.out.output, Nat.le_trans z6 g7.size, fun j hj hne => ?_⟩
        rw [g7.block j (by omega) (fun e => by have := (hl6 j e.symm).1; omega)]
        exact hG6.out.block j hj hne
      clear hgw g7 hl6 hg6 hG6 ho6
      replace ho7 := hide ho7
      replace hx7 := hide hx7
      replace hG7 := hide hG7
      go_wp2_with fail
      go_roundw
      case rel => exact ⟨k + 1, by omega, by go_num, ho7.out, hx7.out, hG7.out⟩
      case measure => simp [intOf]; omega
    · obtain rfl : n = k := by omega
      have q1 : ¬ (n : Int) < (n : Int) := by omega
      clear hlt hk
      replace ho := hide ho
      replace hgr := hide hgr
      replace hGr := hide hGr
      go_wp2_with fail
      go_ret
      exact ⟨_, rfl, ho.out, hgr.out, hGr.out⟩
end Gen35
end Go.Proofs.Ytfmmmjaficbchaa
/- gen: rows of flows, and a packet of a flow: the code's. Conditions: a plan that may be. -/
namespace Go.Proofs.Ytfmmmjaficbchaa
open Go.RowKit Go.ChangeShapes Go.WideShapes Go.ChangeAt Go.Deep
theorem keptS_mono {S S' : Nat} {P P' : Nat → Prop} {a b : World} (h : KeptS S P a b) (hS : S' ≤ S) (hP : ∀ k, k < S' → P k → P' k) : KeptS S' P' a b :=
  ⟨h.os, h.tape, h.output, h.size, fun k hk hne => h.block k (by omega) (fun h => hne (hP k hk h))⟩
theorem keptS_grown {S g : Nat} {P : Nat → Prop} {a b : World} (h : a.grownBy b (some g)) (hS : S ≤ a.heap.size) (hP : S ≤ g ∨ P g) : KeptS S P a b :=
  ⟨h.os, h.tape, h.output, h.size, fun k hk hne => h.block k (by omega) (fun e => by cases e; rcases hP with h | h; omega; exact hne h)⟩
namespace Gen35
open Mix (mixN belN mixN_lt)
open Pkt (InEnd tuA tuA_one wrapB dgU sgU dgmK sgmK)
def cellsF (p : PlanL) (x : Nat × Nat) : List Value := (flowP p x.1 x.2).toList
theorem cellsF_length (p : PlanL) (x : Nat × Nat) : (cellsF p x).length = 9 := rfl
theorem flat_length (p : PlanL) (ts : List (Nat × Nat)) : (ts.flatMap (cellsF p)).length = ts.length * 9 := by
  induction ts with
  | nil => rfl
  | cons x ts ih => rw [List.flatMap_cons, List.length_append, ih, cellsF_length, List.length_cons]; omega
theorem flat_at (p : PlanL) : ∀ (ts : List (Nat × Nat)) (k : Nat) (x : Nat × Nat), ts[k]? = some x → ∀ j, j < 9 → (ts.flatMap (cellsF p))[k * 9 + j]? = (cellsF p x)[j]?
  | [], _, _, h, _, _ => by simp at h
  | y :: ts, 0, x, h, j, hj => by
    obtain rfl : y = x := by simpa using h
    rw [List.flatMap_cons, Nat.zero_mul, Nat.zero_add, List.getElem?_append_left (by rw [cellsF_length]; exact hj)]
  | y :: ts, k + 1, x, h, j, hj => by
    rw [List.flatMap_cons, List.getElem?_append_right (by rw [cellsF_length]; omega), cellsF_length, show (k + 1) * 9 + j - 9 = k * 9 + j by omega]
    exact flat_at p ts k x (by simpa using h) j hj
theorem flat_take (p : PlanL) : ∀ (ts : List (Nat × Nat)) (k : Nat), (ts.flatMap (cellsF p)).take (k * 9) = (ts.take k).flatMap (cellsF p)
  | [], k => by simp
  | y :: ts, 0 => by simp
  | y :: ts, k + 1 => by
    rw [List.flatMap_cons, List.take_succ_cons, List.flatMap_cons, ← flat_take p ts k, show (k + 1) * 9 = (cellsF p y).length + k * 9 by rw [cellsF_length]; omega, List.take_length_add_append]
theorem flat_drop (p : PlanL) : ∀ (ts : List (Nat × Nat)) (k : Nat), (ts.flatMap (cellsF p)).drop (k * 9) = (ts.drop k).flatMap (cellsF p)
  | [], k => by simp
  | y :: ts, 0 => by simp
  | y :: ts, k + 1 => by
    rw [List.flatMap_cons, List.drop_succ_cons, ← flat_drop p ts k, show (k + 1) * 9 = (cellsF p y).length + k * 9 by rw [cellsF_length]; omega, List.drop_length_add_append]
theorem flat_one (p : PlanL) (ts : List (Nat × Nat)) : ∀ u ∈ ts.flatMap (cellsF p), u.oneCell' = true := by
  intro u hu
  obtain ⟨x, _, hx⟩ := List.mem_flatMap.1 hu
  have := Array.all_eq_true_iff_forall_mem.1 (tuA_one p.pr p.v6 (srcHi p : Int) (srcLo p x.1 : Int) p.v6 (p.hi : Int) (p.lo : Int) (x.2 : Int) p.vp)
  exact this u (by unfold cellsF flowP at hx; simpa using hx)
/-- A row of flows. -/
def OwnF (w : World) (base : Nat) (p : PlanL) (v : Value) (ts : List (Nat × Nat)) : Prop := rowsP w base 32 9 v ts.length (ts.flatMap (cellsF p))
theorem info_tu : (Try.prog.info? 32).map (fun i => (i.zero, i.size, i.bytes)) = some (some (.agg Pkt.tuZ), 9, 72) := by kernel_rfl
theorem OwnF.row {w : World} {base : Nat} {p : PlanL} {v : Value} {ts : List (Nat × Nat)} (h : OwnF w base p v ts) {k : Nat} {x : Nat × Nat} (hx : ts[k]? = some x) : ∃ g cap, v = .slice (some ⟨g, 0, none⟩) ts.length cap ∧ base ≤ g ∧ g < w.heap.size ∧ ts.length ≤ cap ∧ cap ≤ maxLen ∧ w.rangeAt g (k * 9) (cellsF p x) := by
  have hk : k < ts.length := (List.getElem?_eq_some_iff.1 hx).1
  obtain ⟨g, cap, h1, h2, h3, h4, h5, h6⟩ := rowsP.form h (by omega)
  refine ⟨g, cap, h1, h2, h3, h4, h5, fun j u hu => h6 _ _ ?_⟩
  have hj : j < 9 := by rw [← cellsF_length p x]; exact (List.getElem?_eq_some_iff.1 hu).1
  rw [flat_at p ts k x hx j hj]
  exact hu
theorem OwnF.val {w : World} {base : Nat} {p : PlanL} {v : Value} {ts : List (Nat × Nat)} (h : OwnF w base p v ts) : ∃ A cap, v = .slice A ts.length cap := by
  rcases h.2 with ⟨rfl, h0⟩ | ⟨g, cap, cur, rfl, _⟩
  · exact ⟨none, 0, by rw [h0]⟩
  · exact ⟨_, _, rfl⟩
/-- append of flows. -/
theorem wp_app_f {w : World} {o : Oper} {a : Act} {K : Act → World → Prop} {Q : Exit → Act → World → Prop} (s x : Operand)
    (ho : o.op = .call { callee := .builtin .append, args := #[s, x], argTypes := #[57, 57] })
    (base : Nat) (p : PlanL) (v : Value) (ts us : List (Nat × Nat)) (hs : a.eval s = v) (hown : OwnF w base p v ts)
    (ad : Addr) (m c : Nat) (hx : a.eval x = .slice (some ad) m c) (hm : us.length = m) (hnews : ∀ j u, (us.flatMap (cellsF p))[j]? = some u → w.cell? (ad.add j) = some u)
    (hb : ts.length + us.length ≤ 1099511627776) (hbase : base ≤ w.heap.size)
    (h : ∀ v' w', OwnF w' base p v' (ts ++ us) → w.grownBy w' v.ownBlock → (v'.ownBlock = v.ownBlock ∨ ∃ k, v'.ownBlock = some k ∧ w.heap.size ≤ k) → K (a.put o.dst v') w') : o.wp Try.prog a w K Q := by
  obtain ⟨i, hi, hz, hsz, hby⟩ := info_parts info_tu
  subst hm
  refine wp_app_p s x 57 ho base 32 i _ 9 72 Try.underlying57 hi hz hsz hby rfl v ts.length _ hs hown ad us.length c (us.flatMap (cellsF p)) hx (flat_length p us) hnews (flat_one p us) (by unfold maxLen; omega) (by omega) hbase fun v' w' h1 h2 h3 => h v' w' ?_ h2 h3
  unfold OwnF
  rw [List.flatMap_append, List.length_append]
  exact h1
/-! ### A packet of a flow -/
def packetB (p : PlanL) (x : Nat × Nat) (fl : Nat) (bs : List UInt8) : List UInt8 :=
  if p.pr = 17 then wrapB p.v6 (srcHi p) (srcLo p x.1) p.hi p.lo 17 64 (dgU p.v6 (srcHi p) (srcLo p x.1) p.hi p.lo (x.2 : Int) p.vp bs)
  else wrapB p.v6 (srcHi p) (srcLo p x.1) p.hi p.lo 6 64 (sgU p.v6 (srcHi p) (srcLo p x.1) p.hi p.lo (x.2 : Int) p.vp (fl : Int) bs)
theorem srcHi_lt (p : PlanL) : srcHi p < 18446744073709551616 := by unfold srcHi; split <;> omega
theorem srcLo_lt (p : PlanL) (n : Nat) (hn : n ≤ 65535) : srcLo p n < 4294967296 := by unfold srcLo; split <;> omega
theorem made_of (p : PlanL) (hR : rightQ p) (x : Nat × Nat) (h1 : x.1 ≤ 65535) (h2 : x.2 ≤ 65535) (fl : Nat) (hf : fl ≤ 255) (P : Int) (hP : p.pr = P) : Pkt.madeP p.pr p.v6 (srcHi p : Int) (srcLo p x.1 : Int) p.v6 (p.hi : Int) (p.lo : Int) (x.2 : Int) p.vp 64 (fl : Int) P := by
  obtain ⟨r1, r2, r3, r4, r5, r6, r7, r8, r9, r10⟩ := hR
  refine ⟨hP, rfl, by omega, by omega, by omega, by omega, r9, r10, by omega, by omega, ?_⟩
  have hl := srcLo_lt p x.1 h1
  cases hv : p.v6 with
  | true => exact .inl rfl
  | false =>
    rw [hv] at r7
    obtain ⟨a, b⟩ := Pkt.okA_four r7
    refine .inr ⟨?_, by omega, by omega, by omega⟩
    unfold srcHi
    rw [hv]
    rfl
theorem dgm_zero (p : PlanL) (hR : rightQ p) (x : Nat × Nat) (h1 : x.1 ≤ 65535) (h2 : x.2 ≤ 65535) (h17 : p.pr = 17) : dgmK p.pr p.v6 (srcHi p : Int) (srcLo p x.1 : Int) p.v6 (p.hi : Int) (p.lo : Int) (x.2 : Int) p.vp 64 = 0 :=
  (Pkt.dgm_made _ _ _ _ _ _ _ _ _ _).1 (made_of p hR x h1 h2 0 (by omega) 17 h17)
theorem sgm_zero (p : PlanL) (hR : rightQ p) (x : Nat × Nat) (h1 : x.1 ≤ 65535) (h2 : x.2 ≤ 65535) (fl : Nat) (hf : fl ≤ 255) (h6 : p.pr = 6) : sgmK p.pr p.v6 (srcHi p : Int) (srcLo p x.1 : Int) p.v6 (p.hi : Int) (p.lo : Int) (x.2 : Int) p.vp (fl : Int) 64 = 0 :=
  (Pkt.sgm_made _ _ _ _ _ _ _ _ _ _ _).1 (made_of p hR x h1 h2 fl hf 6 h6)
/-- What pkt.Datagram makes of a flow and bytes. -/
theorem dgm_any (p : PlanL) (hR : rightQ p) (hi : p.hi < 18446744073709551616) (lo : p.lo < 18446744073709551616) (x : Nat × Nat) (h1 : x.1 ≤ 65535) (h2 : x.2 ≤ 65535) (h17 : p.pr = 17) (fl : Nat) (base : Nat) (v : Value) (bs : List UInt8) (w : World) (ho : OwnB w base v bs) (hl : bs.length ≤ 4000) :
    Calls Try.prog 16 #[.agg (flowP p x.1 x.2), .int .i64 64, v] w fun e w' => InEnd 0 (packetB p x fl bs) w w' e := by
  obtain ⟨A, c, rfl, hc, hm, hx⟩ := ho.form
  have := Pkt.datagram_any p.pr p.v6 (srcHi p) (srcLo p x.1) p.v6 p.hi p.lo (x.2 : Int) p.vp 64 A bs.length c bs w hx hl (srcHi_lt p) (by have := srcLo_lt p x.1 h1; omega) hi lo
  rw [dgm_zero p hR x h1 h2 h17] at this
  unfold packetB
  rw [if_pos h17]
  exact this
theorem sgm_any (p : PlanL) (hR : rightQ p) (hi : p.hi < 18446744073709551616) (lo : p.lo < 18446744073709551616) (x : Nat × Nat) (h1 : x.1 ≤ 65535) (h2 : x.2 ≤ 65535) (h6 : p.pr = 6) (fl : Nat) (hf : fl ≤ 255) (base : Nat) (v : Value) (bs : List UInt8) (w : World) (ho : OwnB w base v bs) (hl : bs.length ≤ 4000) :
    Calls Try.prog 18 #[.agg (flowP p x.1 x.2), .int .i64 64, .int .i64 (fl : Int), v] w fun e w' => InEnd 0 (packetB p x fl bs) w w' e := by
  obtain ⟨A, c, rfl, hc, hm, hx⟩ := ho.form
  have := Pkt.segment_any p.pr p.v6 (srcHi p) (srcLo p x.1) p.v6 p.hi p.lo (x.2 : Int) p.vp 64 (fl : Int) A bs.length c bs w hx hl (srcHi_lt p) (by have := srcLo_lt p x.1 h1; omega) hi lo
  rw [sgm_zero p hR x h1 h2 fl hf h6] at this
  unfold packetB
  rw [if_neg (by omega)]
  exact this
theorem bytesT_length (p : PlanL) (a : Nat) (hm0 : 0 ≤ p.mo) (hm1 : p.mo ≤ 1400) : (bytesT p a).length ≤ 1400 := by
  unfold bytesT
  rw [byteL_length]
  unfold bytesN
  have := Mix.belN_lt (mixN (stepN a)) (p.mo.toNat + 1) (mixN_lt _) (by omega)
  omega
end Gen35
end Go.Proofs.Ytfmmmjaficbchaa
