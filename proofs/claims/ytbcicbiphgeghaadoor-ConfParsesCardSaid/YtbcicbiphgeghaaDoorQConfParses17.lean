/- conf, the law: self: a line that says from which address packets are sent. Conditions: words of at most 2^16 bytes. -/
import Derived.Test.YtbcicbiphgeghaaDoorQConfParses13
import Derived.Test.YtbcicbiphgeghaaDoorQConfParses14
import Derived.Test.YtbcicbiphgeghaaDoorQConfParses9
import Derived.Test.YtbcicbiphgeghaaDoorQConfParses15
import Derived.Test.YtbcicbiphgeghaaDoorQConfParses16
namespace Go.Proofs.YtbcicbiphgeghaaDoor
open Go.RowKit Go.ChangeShapes Go.WideShapes Go.ChangeAt Go.Deep
namespace Conf18
open Addr05
set_option maxRecDepth 20000 in
set_option maxHeartbeats 8000000 in
theorem lself_any (ws : List (List UInt8)) (c : Cfg) (w : World) (base x k : Nat) (A : Option Addr) (hx : IsR strv w base A ws.length ws) (hl : ∀ y ∈ ws, y.length ≤ 65536) (hm : MaxAt w) (hy : wd ws 0 = wSelf) (hR : PlAt base x w c) :
    Calls Tryd.prog 95 #[.pointer (some ⟨x, 0, none⟩), .slice A ws.length k] w fun e w' => LineEnd (PlAt base x) base (selfF c ws) w w' e := by
  obtain ⟨r, hr⟩ : ∃ r, selfF c ws = r := ⟨_, rfl⟩
  rw [hr]
  by_cases hn : ws.length = 2
  · obtain ⟨y0, y1, rfl⟩ := two_words hn
    obtain ⟨b, off, rfl, hb, hc⟩ := words_at hx (by simp)
    have hy0 : y0 = wSelf := hy
    have c0 : w.cell? ⟨b, off, none⟩ = some (.string (str y0)) := hc 0 (by simp)
    have t1 := eqw y0 [100, 111, 109, 97, 105, 110]
    have t2 := eqw y0 [102, 97, 99, 116, 111, 114]
    rw [decide_eq_false (by rw [hy0]; decide)] at t1
    rw [decide_eq_false (by rw [hy0]; decide)] at t2
    have c1 : w.cell? ⟨b, off + 1, none⟩ = some (.string (str y1)) := hc 1 (by simp)
    have q := Parse_any y1 (hl y1 (by simp)) w hm
    unfold selfF at hr
    rw [if_neg (by simp), show wd [y0, y1] 1 = y1 from rfl] at hr
    change Calls Tryd.prog _ #[_, .slice _ 2 _] w _
    obtain ⟨mb, ma, nv, vv, wv, h⟩ := hR
    have hbx := h.cfg.hx
    have hxs := h.xlt
    clear hn hx hl hc hm hy hy0
    rcases hp : parseF y1 with _ | a
    · rw [hp] at hr q
      have q1 : Calls Tryd.prog 81 #[.string (str y1)] w fun e w' => e = .returned (.tuple #[.agg #[.bool false, .int .u64 0, .int .u64 0], .int .i64 18]) ∧ Below w.heap.size w w' := q
      clear q
      replace h := hide h
      replace hr := hide hr
      replace q1 := hide q1
      replace hp := hide hp
      go_enter Tryd.func95, Tryd.ntmps95
      go_upto_region 20 with fail
      apply wp_region_lit
      iterate 3 (refine wpList_plain rfl fun K hK => ?_; go_simp; refine hK _ _ ?_; clear hK K)
      refine wpList_plain rfl fun K hK => ?_
      go_simp
      refine (q1.out).mono ?_
      rintro e w1 ⟨rfl, hb1⟩
      go_simp
      refine hK _ _ ?_
      clear hK K
      iterate 3 (refine wpList_plain rfl fun K hK => ?_; go_simp; refine hK _ _ ?_; clear hK K)
      refine wpl_new rfl rfl 26 _ (alloc_adr _ rfl) 7 rfl (.tmp 88) rfl _ (fun _ => rfl) (fun _ => rfl) rfl (by kernel_rfl) (adr_one false 0 0) ?_
      intro w2 hg2 hb2 hz2
      iterate 1 (refine wpList_plain rfl fun K hK => ?_; go_simp; refine hK _ _ ?_; clear hK K)
      refine wpList_nil ?_
      go_simp
      have hb3 := hb1.trans (hb2.mono (by have := hb1.size; omega))
      clear hg2 hb1 hb2
      replace hb3 := hide hb3
      go_wp2_with fail
      refine bodyPost_ret (v := .int .i64 18) (by simp [results, Tryd.results95, go_sem]) rfl ?_
      exact lineEnd_err hr.out.symm (by decide) hb3.out
    · rw [hp] at hr q
      obtain ⟨v6, hi, lo⟩ := a
      have q1 : Calls Tryd.prog 81 #[.string (str y1)] w fun e w' => e = .returned (.tuple #[.agg #[.bool v6, .int .u64 (hi : Int), .int .u64 (lo : Int)], .int .i64 0]) ∧ Below w.heap.size w w' := q
      clear q
      dsimp only at hr
      replace h := hide h
      replace hr := hide hr
      replace q1 := hide q1
      replace hp := hide hp
      go_enter Tryd.func95, Tryd.ntmps95
      go_upto_region 20 with fail
      apply wp_region_lit
      iterate 3 (refine wpList_plain rfl fun K hK => ?_; go_simp; refine hK _ _ ?_; clear hK K)
      refine wpList_plain rfl fun K hK => ?_
      go_simp
      refine (q1.out).mono ?_
      rintro e w1 ⟨rfl, hb1⟩
      go_simp
      refine hK _ _ ?_
      clear hK K
      iterate 3 (refine wpList_plain rfl fun K hK => ?_; go_simp; refine hK _ _ ?_; clear hK K)
      refine wpl_new rfl rfl 26 _ (alloc_adr _ rfl) 7 rfl (.tmp 88) rfl _ (fun _ => rfl) (fun _ => rfl) rfl (by kernel_rfl) (adr_one v6 (hi : Int) (lo : Int)) ?_
      intro w2 hg2 hb2 hz2
      iterate 1 (refine wpList_plain rfl fun K hK => ?_; go_simp; refine hK _ _ ?_; clear hK K)
      refine wpList_nil ?_
      go_simp
      have hb3 := hb1.trans (hb2.mono (by have := hb1.size; omega))
      have h2 := (h.out.on hb1).on hb2
      have hz1 := hb1.size
      have c0b := blk_cell hg2
      have k5 : w2.cell? ⟨x, 5, none⟩ = some (.bool c.s0.v6) := blk_cell h2.cfg.blk 5
      have k6 : w2.cell? ⟨x, 6, none⟩ = some (.int .u64 (c.s0.hi : Int)) := blk_cell h2.cfg.blk 6
      have k7 : w2.cell? ⟨x, 7, none⟩ = some (.int .u64 (c.s0.lo : Int)) := blk_cell h2.cfg.blk 7
      have k8 : w2.cell? ⟨x, 8, none⟩ = some (.bool c.s1.v6) := blk_cell h2.cfg.blk 8
      have k9 : w2.cell? ⟨x, 9, none⟩ = some (.int .u64 (c.s1.hi : Int)) := blk_cell h2.cfg.blk 9
      have k10 : w2.cell? ⟨x, 10, none⟩ = some (.int .u64 (c.s1.lo : Int)) := blk_cell h2.cfg.blk 10
      have hr2 := hr.out
      clear hb1 hb2 h q1 hr
      have hr := hr2
      clear hr2
      replace hb3 := hide hb3
      replace h2 := hide h2
      replace hg2 := hide hg2
      cases v6
      · simp only [Bool.false_eq_true, ↓reduceIte] at hr
        obtain ⟨B, hB⟩ : ∃ B, decide (c.s0 = zA) = B := ⟨_, rfl⟩
        have hZ : Adr.isZ c.s0 = B := by rw [← hB, Bool.eq_iff_iff, isZ_iff, decide_eq_true_iff]
        obtain ⟨B2, hB2⟩ : ∃ B2, decide ((⟨false, hi, lo⟩ : Adr) = zA) = B2 := ⟨_, rfl⟩
        have hZ2 : Adr.isZ ⟨false, hi, lo⟩ = B2 := by rw [← hB2, Bool.eq_iff_iff, isZ_iff, decide_eq_true_iff]
        rw [hZ, hZ2] at hr
        replace hr := hide hr
        replace hZ := hide hZ
        replace hZ2 := hide hZ2
        go_upto_region 26 with fail
        apply wp_region_lit
        iterate 8 (refine wpList_plain rfl fun K hK => ?_; go_simp; refine hK _ _ ?_; clear hK K)
        refine wpl_neA rfl (.tmp 101) (.tmp 102) rfl c.s0 zA rfl rfl ?_
        rw [hB]
        refine wpList_nil ?_
        go_simp
        cases B
        · go_wp2_with fail
          refine bodyPost_ret (v := .int .i64 8) (by simp [results, Tryd.results95, go_sem]) rfl ?_
          exact lineEnd_err (hr.out.symm.trans (if_pos trivial)) (by decide) hb3.out
        · go_upto_region 28 with fail
          apply wp_region_lit
          iterate 2 (refine wpList_plain rfl fun K hK => ?_; go_simp; refine hK _ _ ?_; clear hK K)
          refine wpl_eqA rfl (.tmp 104) (.tmp 105) rfl ⟨false, hi, lo⟩ zA rfl rfl ?_
          rw [hB2]
          refine wpList_nil ?_
          go_simp
          have hr3 := hr.out
          rw [if_neg (by decide)] at hr3
          clear hr
          cases B2
          · rw [if_neg (by decide)] at hr3
            replace hr3 := hide hr3
            go_upto_region 30 with fail
            refine wp_region_X (KeptS w2.heap.size (fun k => k = x)) (by as_aux_lemma => kernel_rfl) ?_
            intro we hbe
            have hLe := h2.out.on hbe
            have hBe := (hb3.out.mono (B' := base) (by omega)).trans (hbe.mono (by omega))
            have lz := fun l : RelW (KeptS w2.heap.size (fun k => k = x)) we => blk_cell ((l.hk.block w1.heap.size hz2 (fun e => by omega)).trans (blk_below hbe hz2 hg2.out))
            have e5 : we.cell? ⟨x, 5, none⟩ = some (.bool c.s0.v6) := blk_cell hLe.cfg.blk 5
            have e6 : we.cell? ⟨x, 6, none⟩ = some (.int .u64 (c.s0.hi : Int)) := blk_cell hLe.cfg.blk 6
            have e7 : we.cell? ⟨x, 7, none⟩ = some (.int .u64 (c.s0.lo : Int)) := blk_cell hLe.cfg.blk 7
            have f5 := blk_free hLe.cfg.blk
            have g1 := hLe.set (c' := { c with s0 := ⟨false, c.s0.hi, c.s0.lo⟩ }) 5 (.bool false) rfl rfl rfl rfl
            have g2 := g1.set (c' := { c with s0 := ⟨false, hi, c.s0.lo⟩ }) 6 (.int .u64 (hi : Int)) rfl rfl rfl rfl
            have g3 := g2.set (c' := { c with s0 := ⟨false, hi, lo⟩ }) 7 (.int .u64 (lo : Int)) rfl rfl rfl rfl
            have hBf := ((hBe.trans (hLe.below_set 5 (.bool false))).trans (g1.below_set 6 (.int .u64 (hi : Int)))).trans (g2.below_set 7 (.int .u64 (lo : Int)))
            obtain ⟨w9, hw9⟩ : ∃ w9, ((we.setCell ⟨x, 5, none⟩ (.bool false)).setCell ⟨x, 6, none⟩ (.int .u64 (hi : Int))).setCell ⟨x, 7, none⟩ (.int .u64 (lo : Int)) = w9 := ⟨_, rfl⟩
            have hk9 : KeptS w2.heap.size (fun k => k = x) we w9 := hw9 ▸ keptS_set (P := fun k => k = x) (keptS_set (P := fun k => k = x) (keptS_set (P := fun k => k = x) (keptS_refl w2.heap.size (fun k => k = x) we) (p := ⟨x, 5, none⟩) rfl _) (p := ⟨x, 6, none⟩) rfl _) (p := ⟨x, 7, none⟩) rfl _
            rw [hw9] at g3 hBf
            clear hLe hBe hbe g1 g2 h2 hg2 hb3 k5 k6 k7 k8 k9 k10 c0b
            replace g3 := hide g3
            replace hBf := hide hBf
            replace hk9 := hide hk9
            refine wpX_seg (KeptS w2.heap.size (fun k => k = x)) 0 7 (fuel := 1) (by as_aux_lemma => kernel_rfl) (fun d _ _ _ _ h => by cases d <;> exact h) (by as_aux_lemma => kernel_rfl) (by as_aux_lemma => kernel_rfl) ?_
            simp only [List.drop_zero, List.take_succ_cons, List.take_zero]
            iterate 7 (refine wpQX_step (fun K hK => ?_); go_simp; refine hK _ ?_; clear hK K)
            refine wpQF_nil ?_
            clear lz
            refine wpF_step 7 rfl (by as_aux_lemma => kernel_rfl) (fun K hK => ?_)
            go_simp
            refine hK _ _ hk9.out ?_
            clear hK K e5 e6 e7 f5 hw9
            refine wpF_done (by as_aux_lemma => kernel_rfl) ?_ 0
            go_wp2_with fail
            refine bodyPost_ret (v := .int .i64 0) (by simp [results, Tryd.results95, go_sem]) rfl ?_
            exact lineEnd_ok hr3.out.symm ⟨mb, ma, nv, vv, wv, g3.out⟩ hBf.out
          · rw [if_pos rfl] at hr3
            replace hr3 := hide hr3
            go_wp2_with fail
            refine bodyPost_ret (v := .int .i64 18) (by simp [results, Tryd.results95, go_sem]) rfl ?_
            exact lineEnd_err hr3.out.symm (by decide) hb3.out
      · simp only [↓reduceIte] at hr
        obtain ⟨B, hB⟩ : ∃ B, decide (c.s1 = zA) = B := ⟨_, rfl⟩
        have hZ : Adr.isZ c.s1 = B := by rw [← hB, Bool.eq_iff_iff, isZ_iff, decide_eq_true_iff]
        obtain ⟨B2, hB2⟩ : ∃ B2, decide ((⟨true, hi, lo⟩ : Adr) = zA) = B2 := ⟨_, rfl⟩
        have hZ2 : Adr.isZ ⟨true, hi, lo⟩ = B2 := by rw [← hB2, Bool.eq_iff_iff, isZ_iff, decide_eq_true_iff]
        rw [hZ, hZ2] at hr
        replace hr := hide hr
        replace hZ := hide hZ
        replace hZ2 := hide hZ2
        go_upto_region 26 with fail
        apply wp_region_lit
        iterate 8 (refine wpList_plain rfl fun K hK => ?_; go_simp; refine hK _ _ ?_; clear hK K)
        refine wpl_neA rfl (.tmp 101) (.tmp 102) rfl c.s1 zA rfl rfl ?_
        rw [hB]
        refine wpList_nil ?_
        go_simp
        cases B
        · go_wp2_with fail
          refine bodyPost_ret (v := .int .i64 8) (by simp [results, Tryd.results95, go_sem]) rfl ?_
          exact lineEnd_err (hr.out.symm.trans (if_pos trivial)) (by decide) hb3.out
        · go_upto_region 28 with fail
          apply wp_region_lit
          iterate 2 (refine wpList_plain rfl fun K hK => ?_; go_simp; refine hK _ _ ?_; clear hK K)
          refine wpl_eqA rfl (.tmp 104) (.tmp 105) rfl ⟨true, hi, lo⟩ zA rfl rfl ?_
          rw [hB2]
          refine wpList_nil ?_
          go_simp
          have hr3 := hr.out
          rw [if_neg (by decide)] at hr3
          clear hr
          cases B2
          · rw [if_neg (by decide)] at hr3
            replace hr3 := hide hr3
            go_upto_region 30 with fail
            refine wp_region_X (KeptS w2.heap.size (fun k => k = x)) (by as_aux_lemma => kernel_rfl) ?_
            intro we hbe
            have hLe := h2.out.on hbe
            have hBe := (hb3.out.mono (B' := base) (by omega)).trans (hbe.mono (by omega))
            have lz := fun l : RelW (KeptS w2.heap.size (fun k => k = x)) we => blk_cell ((l.hk.block w1.heap.size hz2 (fun e => by omega)).trans (blk_below hbe hz2 hg2.out))
            have e5 : we.cell? ⟨x, 8, none⟩ = some (.bool c.s1.v6) := blk_cell hLe.cfg.blk 8
            have e6 : we.cell? ⟨x, 9, none⟩ = some (.int .u64 (c.s1.hi : Int)) := blk_cell hLe.cfg.blk 9
            have e7 : we.cell? ⟨x, 10, none⟩ = some (.int .u64 (c.s1.lo : Int)) := blk_cell hLe.cfg.blk 10
            have f5 := blk_free hLe.cfg.blk
            have g1 := hLe.set (c' := { c with s1 := ⟨true, c.s1.hi, c.s1.lo⟩ }) 8 (.bool true) rfl rfl rfl rfl
            have g2 := g1.set (c' := { c with s1 := ⟨true, hi, c.s1.lo⟩ }) 9 (.int .u64 (hi : Int)) rfl rfl rfl rfl
            have g3 := g2.set (c' := { c with s1 := ⟨true, hi, lo⟩ }) 10 (.int .u64 (lo : Int)) rfl rfl rfl rfl
            have hBf := ((hBe.trans (hLe.below_set 8 (.bool true))).trans (g1.below_set 9 (.int .u64 (hi : Int)))).trans (g2.below_set 10 (.int .u64 (lo : Int)))
            obtain ⟨w9, hw9⟩ : ∃ w9, ((we.setCell ⟨x, 8, none⟩ (.bool true)).setCell ⟨x, 9, none⟩ (.int .u64 (hi : Int))).setCell ⟨x, 10, none⟩ (.int .u64 (lo : Int)) = w9 := ⟨_, rfl⟩
            have hk9 : KeptS w2.heap.size (fun k => k = x) we w9 := hw9 ▸ keptS_set (P := fun k => k = x) (keptS_set (P := fun k => k = x) (keptS_set (P := fun k => k = x) (keptS_refl w2.heap.size (fun k => k = x) we) (p := ⟨x, 8, none⟩) rfl _) (p := ⟨x, 9, none⟩) rfl _) (p := ⟨x, 10, none⟩) rfl _
            rw [hw9] at g3 hBf
            clear hLe hBe hbe g1 g2 h2 hg2 hb3 k5 k6 k7 k8 k9 k10 c0b
            replace g3 := hide g3
            replace hBf := hide hBf
            replace hk9 := hide hk9
            refine wpX_seg (KeptS w2.heap.size (fun k => k = x)) 0 7 (fuel := 1) (by as_aux_lemma => kernel_rfl) (fun d _ _ _ _ h => by cases d <;> exact h) (by as_aux_lemma => kernel_rfl) (by as_aux_lemma => kernel_rfl) ?_
            simp only [List.drop_zero, List.take_succ_cons, List.take_zero]
            iterate 7 (refine wpQX_step (fun K hK => ?_); go_simp; refine hK _ ?_; clear hK K)
            refine wpQF_nil ?_
            clear lz
            refine wpF_step 7 rfl (by as_aux_lemma => kernel_rfl) (fun K hK => ?_)
            go_simp
            refine hK _ _ hk9.out ?_
            clear hK K e5 e6 e7 f5 hw9
            refine wpF_done (by as_aux_lemma => kernel_rfl) ?_ 0
            go_wp2_with fail
            refine bodyPost_ret (v := .int .i64 0) (by simp [results, Tryd.results95, go_sem]) rfl ?_
            exact lineEnd_ok hr3.out.symm ⟨mb, ma, nv, vv, wv, g3.out⟩ hBf.out
          · rw [if_pos rfl] at hr3
            replace hr3 := hide hr3
            go_wp2_with fail
            refine bodyPost_ret (v := .int .i64 18) (by simp [results, Tryd.results95, go_sem]) rfl ?_
            exact lineEnd_err hr3.out.symm (by decide) hb3.out
  · have t : ((ws.length : Int) != 2) = true := ne_nat (k := 2) hn
    unfold selfF at hr
    rw [if_pos hn] at hr
    clear hn hx hl hm hy
    replace hR := hide hR
    replace hr := hide hr
    go_enter Tryd.func95, Tryd.ntmps95
    go_wp2_with fail
    go_ret
    exact lineEnd_err hr.out.symm (by decide) (Below.refl _ _)
end Conf18
end Go.Proofs.YtbcicbiphgeghaaDoor
/- conf, the law: line: one of the lines. Conditions: words of at most 2^16 bytes. -/
namespace Go.Proofs.YtbcicbiphgeghaaDoor
open Go.RowKit Go.ChangeShapes Go.WideShapes Go.ChangeAt Go.Deep
namespace Conf18
open Addr05
set_option maxRecDepth 20000 in
set_option maxHeartbeats 8000000 in
/-- A node's line that has too few words, or too many. -/
theorem lnodeF_any (ws : List (List UInt8)) (k : Nat) (hk1 : 1 ≤ k) (hk4 : k ≤ 4) (c : Cfg) (w : World) (base x cap : Nat) (A : Option Addr) (hbad : ws.length < leastF k ∨ mostF k < ws.length) :
    Calls Tryd.prog 96 #[.pointer (some ⟨x, 0, none⟩), .slice A ws.length cap, .int .i64 (k : Int)] w fun e w' => LineEnd (PlAt base x) base (nodeF k c ws) w w' e := by
  have hr : nodeF k c ws = .error 4 := by unfold nodeF; rw [if_pos hbad]
  rw [hr]
  obtain ⟨n, hn⟩ : ∃ n, ws.length = n := ⟨_, rfl⟩
  rw [hn] at hbad ⊢
  have hbl : Below w.heap.size w w := Below.refl _ _
  rcases (by omega : k = 1 ∨ k = 2 ∨ k = 3 ∨ k = 4) with rfl | rfl | rfl | rfl
  · have h2 : n ≠ 2 := by rintro rfl; revert hbad; decide
    have t : ((n : Int) != 2) = true := ne_nat (k := 2) h2
    clear hn hr hbad h2
    replace hbl := hide hbl
    change Calls _ _ #[_, _, .int .i64 1] _ _
    go_enter Tryd.func96, Tryd.ntmps96
    go_wp2_with fail
    go_ret
    exact lineEnd_err (n := 4) rfl (by decide) hbl.out
  · have h2 : n ≠ 3 := by rintro rfl; revert hbad; decide
    have h3 : n ≠ 4 := by rintro rfl; revert hbad; decide
    have t : ((n : Int) != 3) = true := ne_nat (k := 3) h2
    have t2 : ((n : Int) != 4) = true := ne_nat (k := 4) h3
    clear hn hr hbad h2 h3
    replace hbl := hide hbl
    change Calls _ _ #[_, _, .int .i64 2] _ _
    go_enter Tryd.func96, Tryd.ntmps96
    go_wp2_with fail
    go_ret
    exact lineEnd_err (n := 4) rfl (by decide) hbl.out
  · have h2 : n ≠ 3 := by rintro rfl; revert hbad; decide
    have h3 : n ≠ 4 := by rintro rfl; revert hbad; decide
    have t : ((n : Int) != 3) = true := ne_nat (k := 3) h2
    have t2 : ((n : Int) != 4) = true := ne_nat (k := 4) h3
    clear hn hr hbad h2 h3
    replace hbl := hide hbl
    change Calls _ _ #[_, _, .int .i64 3] _ _
    go_enter Tryd.func96, Tryd.ntmps96
    go_wp2_with fail
    go_ret
    exact lineEnd_err (n := 4) rfl (by decide) hbl.out
  · have h2 : n ≠ 5 := by rintro rfl; revert hbad; decide
    have t : ((n : Int) != 5) = true := ne_nat (k := 5) h2
    clear hn hr hbad h2
    replace hbl := hide hbl
    change Calls _ _ #[_, _, .int .i64 4] _ _
    go_enter Tryd.func96, Tryd.ntmps96
    go_wp2_with fail
    go_ret
    exact lineEnd_err (n := 4) rfl (by decide) hbl.out
theorem lfour_words {α : Type} {l : List α} (h : l.length = 4) : ∃ a b c d, l = [a, b, c, d] := by
  match l, h with
  | [a, b, c, d], _ => exact ⟨a, b, c, d, rfl⟩
theorem lfive_words {α : Type} {l : List α} (h : l.length = 5) : ∃ a b c d e, l = [a, b, c, d, e] := by
  match l, h with
  | [a, b, c, d, e], _ => exact ⟨a, b, c, d, e, rfl⟩
theorem lnode_any (ws : List (List UInt8)) (k : Nat) (hk1 : 1 ≤ k) (hk4 : k ≤ 4) (c : Cfg) (w : World) (base x cap : Nat) (A : Option Addr) (hx : IsR strv w base A ws.length ws) (hn0 : 0 < ws.length) (hl : ∀ y ∈ ws, y.length ≤ 65536) (hm : MaxAt w) (hs : c.small 4096) (hR : PlAt base x w c) :
    Calls Tryd.prog 96 #[.pointer (some ⟨x, 0, none⟩), .slice A ws.length cap, .int .i64 (k : Int)] w fun e w' => LineEnd (PlAt base x) base (nodeF k c ws) w w' e := by
  by_cases hbad : ws.length < leastF k ∨ mostF k < ws.length
  · exact lnodeF_any ws k hk1 hk4 c w base x cap A hbad
  obtain ⟨b, off, rfl, hb, hc⟩ := words_at hx hn0
  have hc0 := hc 0 hn0
  have hcase : (ws.length = 2 ∧ k = 1) ∨ (ws.length = 3 ∧ k = 2) ∨ (ws.length = 3 ∧ k = 3) ∨ (ws.length = 4 ∧ k = 2) ∨ (ws.length = 4 ∧ k = 3) ∨ (ws.length = 5 ∧ k = 4) := by
    unfold leastF mostF at hbad
    rcases (by omega : k = 1 ∨ k = 2 ∨ k = 3 ∨ k = 4) with rfl | rfl | rfl | rfl <;> simp at hbad <;> omega
  rcases hcase with ⟨h1, rfl⟩ | ⟨h1, rfl⟩ | ⟨h1, rfl⟩ | ⟨h1, rfl⟩ | ⟨h1, rfl⟩ | ⟨h1, rfl⟩
  · obtain ⟨y0, y1, rfl⟩ := two_words h1
    exact lnode21_any y0 y1 c w base x b off cap hb hc0 (hc 1 (by simp)) (hl _ (by simp)) (hl _ (by simp)) hm hs hR
  · obtain ⟨y0, y1, y2, rfl⟩ := three_words h1
    exact lnode32_any y0 y1 y2 c w base x b off cap hb hc0 (hc 1 (by simp)) (hc 2 (by simp)) (hl _ (by simp)) (hl _ (by simp)) (hl _ (by simp)) hm hs hR
  · obtain ⟨y0, y1, y2, rfl⟩ := three_words h1
    exact lnode33_any y0 y1 y2 c w base x b off cap hb hc0 (hc 1 (by simp)) (hc 2 (by simp)) (hl _ (by simp)) (hl _ (by simp)) (hl _ (by simp)) hm hs hR
  · obtain ⟨y0, y1, y2, y3, rfl⟩ := lfour_words h1
    exact lnode42_any y0 y1 y2 y3 c w base x b off cap hb hc0 (hc 1 (by simp)) (hc 2 (by simp)) (hc 3 (by simp)) (hl _ (by simp)) (hl _ (by simp)) (hl _ (by simp)) (hl _ (by simp)) hm hs hR
  · obtain ⟨y0, y1, y2, y3, rfl⟩ := lfour_words h1
    exact lnode43_any y0 y1 y2 y3 c w base x b off cap hb hc0 (hc 1 (by simp)) (hc 2 (by simp)) (hc 3 (by simp)) (hl _ (by simp)) (hl _ (by simp)) (hl _ (by simp)) (hl _ (by simp)) hm hs hR
  · obtain ⟨y0, y1, y2, y3, y4, rfl⟩ := lfive_words h1
    exact lnode54_any y0 y1 y2 y3 y4 c w base x b off cap hb hc0 (hc 1 (by simp)) (hc 2 (by simp)) (hc 3 (by simp)) (hc 4 (by simp)) (hl _ (by simp)) (hl _ (by simp)) (hl _ (by simp)) (hl _ (by simp)) (hl _ (by simp)) hm hs hR
set_option maxRecDepth 20000 in
set_option maxHeartbeats 8000000 in
theorem lline_any (ws : List (List UInt8)) (c : Cfg) (w : World) (base x cap : Nat) (A : Option Addr) (hx : IsR strv w base A ws.length ws) (hn0 : 0 < ws.length) (hnb : ws.length < 4611686018427387904) (hl : ∀ y ∈ ws, y.length ≤ 65536) (hm : MaxAt w) (hs : c.small 4096) (hR : PlAt base x w c) :
    Calls Tryd.prog 65 #[.pointer (some ⟨x, 0, none⟩), .slice A ws.length cap] w fun e w' => LineEnd (PlAt base x) base (lineF c ws) w w' e := by
  obtain ⟨r, hr⟩ : ∃ r, lineF c ws = r := ⟨_, rfl⟩
  rw [hr]
  obtain ⟨b, off, rfl, hb, hc⟩ := words_at hx hn0
  have c0 := hc 0 hn0
  rw [Nat.add_zero] at c0
  have qn := fun k hk1 hk4 => lnode_any ws k hk1 hk4 c w base x cap _ hx hn0 hl hm hs hR
  have qf := fun hy => lfactor_any ws c w base x cap _ hx hl hy hR
  have qd := fun hy => ldomain_any ws c w base x cap _ hx hy hR
  have qs := fun hy => lself_any ws c w base x cap _ hx hl hm hy hR
  have qv := lvip_any ws c w base x cap _ hx hnb hl hm hs hR
  have qw := lview_any ws c w base x cap _ hx hl hm hs hR
  obtain ⟨n, hn⟩ : ∃ n, ws.length = n := ⟨_, rfl⟩
  rw [hn] at qn qf qd qs qv qw hn0 ⊢
  unfold lineF at hr
  obtain ⟨y, hy⟩ : ∃ y, wd ws 0 = y := ⟨_, rfl⟩
  rw [hy] at hr c0 qf qd qs
  have hn1 : (0 : Int) < (n : Int) := by omega
  have t0 := eqw y [102, 97, 99, 116, 111, 114]
  have t1 := eqw y [100, 111, 109, 97, 105, 110]
  have t2 := eqw y [115, 101, 108, 102]
  have t3 := eqw y [108, 101, 118, 101, 108]
  have t4 := eqw y [122, 111, 110, 101]
  have t5 := eqw y [114, 97, 99, 107]
  have t6 := eqw y [104, 111, 115, 116]
  have t7 := eqw y [118, 105, 112]
  have t8 := eqw y [118, 105, 101, 119]
  clear hx hc hn hl hm hs hR hy hnb
  by_cases h0 : y = wFactor
  · rw [decide_eq_true (show y = [102, 97, 99, 116, 111, 114] from h0)] at t0
    rw [decide_eq_false (show ¬ y = [100, 111, 109, 97, 105, 110] from fun e => by rw [show y = [102, 97, 99, 116, 111, 114] from h0] at e; revert e; decide)] at t1
    rw [decide_eq_false (show ¬ y = [115, 101, 108, 102] from fun e => by rw [show y = [102, 97, 99, 116, 111, 114] from h0] at e; revert e; decide)] at t2
    rw [decide_eq_false (show ¬ y = [108, 101, 118, 101, 108] from fun e => by rw [show y = [102, 97, 99, 116, 111, 114] from h0] at e; revert e; decide)] at t3
    rw [decide_eq_false (show ¬ y = [122, 111, 110, 101] from fun e => by rw [show y = [102, 97, 99, 116, 111, 114] from h0] at e; revert e; decide)] at t4
    rw [decide_eq_false (show ¬ y = [114, 97, 99, 107] from fun e => by rw [show y = [102, 97, 99, 116, 111, 114] from h0] at e; revert e; decide)] at t5
    rw [decide_eq_false (show ¬ y = [104, 111, 115, 116] from fun e => by rw [show y = [102, 97, 99, 116, 111, 114] from h0] at e; revert e; decide)] at t6
    rw [decide_eq_false (show ¬ y = [118, 105, 112] from fun e => by rw [show y = [102, 97, 99, 116, 111, 114] from h0] at e; revert e; decide)] at t7
    rw [decide_eq_false (show ¬ y = [118, 105, 101, 119] from fun e => by rw [show y = [102, 97, 99, 116, 111, 114] from h0] at e; revert e; decide)] at t8
    rw [if_pos h0] at hr
    have q := qf h0
    clear h0
    replace hr := hide hr
    replace q := hide q
    clear qn qf qd qs qv qw
    go_enter Tryd.func65, Tryd.ntmps65
    go_wp2_with fail
    refine (q.out).mono ?_
    rintro e w1 (⟨m, hr1, h0, rfl, hb1⟩ | ⟨c1, hr1, rfl, hP, hb1⟩)
    · replace hb1 := hide hb1
      replace hr1 := hide hr1
      go_wp2_with fail
      go_ret
      exact .inl ⟨m, hr.out.symm.trans hr1.out, h0, rfl, hb1.out⟩
    · replace hb1 := hide hb1
      replace hr1 := hide hr1
      replace hP := hide hP
      go_wp2_with fail
      go_ret
      exact .inr ⟨c1, hr.out.symm.trans hr1.out, rfl, hP.out, hb1.out⟩
  rw [decide_eq_false (show ¬ y = [102, 97, 99, 116, 111, 114] from h0)] at t0
  by_cases h1 : y = wDomain
  · rw [decide_eq_true (show y = [100, 111, 109, 97, 105, 110] from h1)] at t1
    rw [decide_eq_false (show ¬ y = [115, 101, 108, 102] from fun e => by rw [show y = [100, 111, 109, 97, 105, 110] from h1] at e; revert e; decide)] at t2
    rw [decide_eq_false (show ¬ y = [108, 101, 118, 101, 108] from fun e => by rw [show y = [100, 111, 109, 97, 105, 110] from h1] at e; revert e; decide)] at t3
    rw [decide_eq_false (show ¬ y = [122, 111, 110, 101] from fun e => by rw [show y = [100, 111, 109, 97, 105, 110] from h1] at e; revert e; decide)] at t4
    rw [decide_eq_false (show ¬ y = [114, 97, 99, 107] from fun e => by rw [show y = [100, 111, 109, 97, 105, 110] from h1] at e; revert e; decide)] at t5
    rw [decide_eq_false (show ¬ y = [104, 111, 115, 116] from fun e => by rw [show y = [100, 111, 109, 97, 105, 110] from h1] at e; revert e; decide)] at t6
    rw [decide_eq_false (show ¬ y = [118, 105, 112] from fun e => by rw [show y = [100, 111, 109, 97, 105, 110] from h1] at e; revert e; decide)] at t7
    rw [decide_eq_false (show ¬ y = [118, 105, 101, 119] from fun e => by rw [show y = [100, 111, 109, 97, 105, 110] from h1] at e; revert e; decide)] at t8
    rw [if_neg (show ¬ y = wFactor from fun e => by rw [show y = [100, 111, 109, 97, 105, 110] from h1] at e; revert e; decide)] at hr
    rw [if_pos h1] at hr
    have q := qd h1
    clear h1
    replace hr := hide hr
    replace q := hide q
    clear qn qf qd qs qv qw
    go_enter Tryd.func65, Tryd.ntmps65
    go_wp2_with fail
    refine (q.out).mono ?_
    rintro e w1 (⟨m, hr1, h0, rfl, hb1⟩ | ⟨c1, hr1, rfl, hP, hb1⟩)
    · replace hb1 := hide hb1
      replace hr1 := hide hr1
      go_wp2_with fail
      go_ret
      exact .inl ⟨m, hr.out.symm.trans hr1.out, h0, rfl, hb1.out⟩
    · replace hb1 := hide hb1
      replace hr1 := hide hr1
      replace hP := hide hP
      go_wp2_with fail
      go_ret
      exact .inr ⟨c1, hr.out.symm.trans hr1.out, rfl, hP.out, hb1.out⟩
  rw [decide_eq_false (show ¬ y = [100, 111, 109, 97, 105, 110] from h1)] at t1
  by_cases h2 : y = wSelf
  · rw [decide_eq_true (show y = [115, 101, 108, 102] from h2)] at t2
    rw [decide_eq_false (show ¬ y = [108, 101, 118, 101, 108] from fun e => by rw [show y = [115, 101, 108, 102] from h2] at e; revert e; decide)] at t3
    rw [decide_eq_false (show ¬ y = [122, 111, 110, 101] from fun e => by rw [show y = [115, 101, 108, 102] from h2] at e; revert e; decide)] at t4
    rw [decide_eq_false (show ¬ y = [114, 97, 99, 107] from fun e => by rw [show y = [115, 101, 108, 102] from h2] at e; revert e; decide)] at t5
    rw [decide_eq_false (show ¬ y = [104, 111, 115, 116] from fun e => by rw [show y = [115, 101, 108, 102] from h2] at e; revert e; decide)] at t6
    rw [decide_eq_false (show ¬ y = [118, 105, 112] from fun e => by rw [show y = [115, 101, 108, 102] from h2] at e; revert e; decide)] at t7
    rw [decide_eq_false (show ¬ y = [118, 105, 101, 119] from fun e => by rw [show y = [115, 101, 108, 102] from h2] at e; revert e; decide)] at t8
    rw [if_neg (show ¬ y = wFactor from fun e => by rw [show y = [115, 101, 108, 102] from h2] at e; revert e; decide)] at hr
    rw [if_neg (show ¬ y = wDomain from fun e => by rw [show y = [115, 101, 108, 102] from h2] at e; revert e; decide)] at hr
    rw [if_pos h2] at hr
    have q := qs h2
    clear h2
    replace hr := hide hr
    replace q := hide q
    clear qn qf qd qs qv qw
    go_enter Tryd.func65, Tryd.ntmps65
    go_wp2_with fail
    refine (q.out).mono ?_
    rintro e w1 (⟨m, hr1, h0, rfl, hb1⟩ | ⟨c1, hr1, rfl, hP, hb1⟩)
    · replace hb1 := hide hb1
      replace hr1 := hide hr1
      go_wp2_with fail
      go_ret
      exact .inl ⟨m, hr.out.symm.trans hr1.out, h0, rfl, hb1.out⟩
    · replace hb1 := hide hb1
      replace hr1 := hide hr1
      replace hP := hide hP
      go_wp2_with fail
      go_ret
      exact .inr ⟨c1, hr.out.symm.trans hr1.out, rfl, hP.out, hb1.out⟩
  rw [decide_eq_false (show ¬ y = [115, 101, 108, 102] from h2)] at t2
  by_cases h3 : y = wLevel
  · rw [decide_eq_true (show y = [108, 101, 118, 101, 108] from h3)] at t3
    rw [decide_eq_false (show ¬ y = [122, 111, 110, 101] from fun e => by rw [show y = [108, 101, 118, 101, 108] from h3] at e; revert e; decide)] at t4
    rw [decide_eq_false (show ¬ y = [114, 97, 99, 107] from fun e => by rw [show y = [108, 101, 118, 101, 108] from h3] at e; revert e; decide)] at t5
    rw [decide_eq_false (show ¬ y = [104, 111, 115, 116] from fun e => by rw [show y = [108, 101, 118, 101, 108] from h3] at e; revert e; decide)] at t6
    rw [decide_eq_false (show ¬ y = [118, 105, 112] from fun e => by rw [show y = [108, 101, 118, 101, 108] from h3] at e; revert e; decide)] at t7
    rw [decide_eq_false (show ¬ y = [118, 105, 101, 119] from fun e => by rw [show y = [108, 101, 118, 101, 108] from h3] at e; revert e; decide)] at t8
    rw [if_neg (show ¬ y = wFactor from fun e => by rw [show y = [108, 101, 118, 101, 108] from h3] at e; revert e; decide)] at hr
    rw [if_neg (show ¬ y = wDomain from fun e => by rw [show y = [108, 101, 118, 101, 108] from h3] at e; revert e; decide)] at hr
    rw [if_neg (show ¬ y = wSelf from fun e => by rw [show y = [108, 101, 118, 101, 108] from h3] at e; revert e; decide)] at hr
    rw [if_neg (show ¬ y = wVip from fun e => by rw [show y = [108, 101, 118, 101, 108] from h3] at e; revert e; decide)] at hr
    rw [if_neg (show ¬ y = wView from fun e => by rw [show y = [108, 101, 118, 101, 108] from h3] at e; revert e; decide)] at hr
    have hk : kindF y = 1 := by rw [h3]; decide
    rw [hk, if_pos (by decide)] at hr
    have q := qn 1 (by decide) (by decide)
    change Calls _ _ #[_, _, .int .i64 1] _ _ at q
    clear h3 hk
    replace hr := hide hr
    replace q := hide q
    clear qn qf qd qs qv qw
    go_enter Tryd.func65, Tryd.ntmps65
    go_wp2_with fail
    refine (q.out).mono ?_
    rintro e w1 (⟨m, hr1, h0, rfl, hb1⟩ | ⟨c1, hr1, rfl, hP, hb1⟩)
    · replace hb1 := hide hb1
      replace hr1 := hide hr1
      go_wp2_with fail
      go_ret
      exact .inl ⟨m, hr.out.symm.trans hr1.out, h0, rfl, hb1.out⟩
    · replace hb1 := hide hb1
      replace hr1 := hide hr1
      replace hP := hide hP
      go_wp2_with fail
      go_ret
      exact .inr ⟨c1, hr.out.symm.trans hr1.out, rfl, hP.out, hb1.out⟩
  rw [decide_eq_false (show ¬ y = [108, 101, 118, 101, 108] from h3)] at t3
  by_cases h4 : y = wZone
  · rw [decide_eq_true (show y = [122, 111, 110, 101] from h4)] at t4
    rw [decide_eq_false (show ¬ y = [114, 97, 99, 107] from fun e => by rw [show y = [122, 111, 110, 101] from h4] at e; revert e; decide)] at t5
    rw [decide_eq_false (show ¬ y = [104, 111, 115, 116] from fun e => by rw [show y = [122, 111, 110, 101] from h4] at e; revert e; decide)] at t6
    rw [decide_eq_false (show ¬ y = [118, 105, 112] from fun e => by rw [show y = [122, 111, 110, 101] from h4] at e; revert e; decide)] at t7
    rw [decide_eq_false (show ¬ y = [118, 105, 101, 119] from fun e => by rw [show y = [122, 111, 110, 101] from h4] at e; revert e; decide)] at t8
    rw [if_neg (show ¬ y = wFactor from fun e => by rw [show y = [122, 111, 110, 101] from h4] at e; revert e; decide)] at hr
    rw [if_neg (show ¬ y = wDomain from fun e => by rw [show y = [122, 111, 110, 101] from h4] at e; revert e; decide)] at hr
    rw [if_neg (show ¬ y = wSelf from fun e => by rw [show y = [122, 111, 110, 101] from h4] at e; revert e; decide)] at hr
    rw [if_neg (show ¬ y = wVip from fun e => by rw [show y = [122, 111, 110, 101] from h4] at e; revert e; decide)] at hr
    rw [if_neg (show ¬ y = wView from fun e => by rw [show y = [122, 111, 110, 101] from h4] at e; revert e; decide)] at hr
    have hk : kindF y = 2 := by rw [h4]; decide
    rw [hk, if_pos (by decide)] at hr
    have q := qn 2 (by decide) (by decide)
    change Calls _ _ #[_, _, .int .i64 2] _ _ at q
    clear h4 hk
    replace hr := hide hr
    replace q := hide q
    clear qn qf qd qs qv qw
    go_enter Tryd.func65, Tryd.ntmps65
    go_wp2_with fail
    refine (q.out).mono ?_
    rintro e w1 (⟨m, hr1, h0, rfl, hb1⟩ | ⟨c1, hr1, rfl, hP, hb1⟩)
    · replace hb1 := hide hb1
      replace hr1 := hide hr1
      go_wp2_with fail
      go_ret
      exact .inl ⟨m, hr.out.symm.trans hr1.out, h0, rfl, hb1.out⟩
    · replace hb1 := hide hb1
      replace hr1 := hide hr1
      replace hP := hide hP
      go_wp2_with fail
      go_ret
      exact .inr ⟨c1, hr.out.symm.trans hr1.out, rfl, hP.out, hb1.out⟩
  rw [decide_eq_false (show ¬ y = [122, 111, 110, 101] from h4)] at t4
  by_cases h5 : y = wRack
  · rw [decide_eq_true (show y = [114, 97, 99, 107] from h5)] at t5
    rw [decide_eq_false (show ¬ y = [104, 111, 115, 116] from fun e => by rw [show y = [114, 97, 99, 107] from h5] at e; revert e; decide)] at t6
    rw [decide_eq_false (show ¬ y = [118, 105, 112] from fun e => by rw [show y = [114, 97, 99, 107] from h5] at e; revert e; decide)] at t7
    rw [decide_eq_false (show ¬ y = [118, 105, 101, 119] from fun e => by rw [show y = [114, 97, 99, 107] from h5] at e; revert e; decide)] at t8
    rw [if_neg (show ¬ y = wFactor from fun e => by rw [show y = [114, 97, 99, 107] from h5] at e; revert e; decide)] at hr
    rw [if_neg (show ¬ y = wDomain from fun e => by rw [show y = [114, 97, 99, 107] from h5] at e; revert e; decide)] at hr
    rw [if_neg (show ¬ y = wSelf from fun e => by rw [show y = [114, 97, 99, 107] from h5] at e; revert e; decide)] at hr
    rw [if_neg (show ¬ y = wVip from fun e => by rw [show y = [114, 97, 99, 107] from h5] at e; revert e; decide)] at hr
    rw [if_neg (show ¬ y = wView from fun e => by rw [show y = [114, 97, 99, 107] from h5] at e; revert e; decide)] at hr
    have hk : kindF y = 3 := by rw [h5]; decide
    rw [hk, if_pos (by decide)] at hr
    have q := qn 3 (by decide) (by decide)
    change Calls _ _ #[_, _, .int .i64 3] _ _ at q
    clear h5 hk
    replace hr := hide hr
    replace q := hide q
    clear qn qf qd qs qv qw
    go_enter Tryd.func65, Tryd.ntmps65
    go_wp2_with fail
    refine (q.out).mono ?_
    rintro e w1 (⟨m, hr1, h0, rfl, hb1⟩ | ⟨c1, hr1, rfl, hP, hb1⟩)
    · replace hb1 := hide hb1
      replace hr1 := hide hr1
      go_wp2_with fail
      go_ret
      exact .inl ⟨m, hr.out.symm.trans hr1.out, h0, rfl, hb1.out⟩
    · replace hb1 := hide hb1
      replace hr1 := hide hr1
      replace hP := hide hP
      go_wp2_with fail
      go_ret
      exact .inr ⟨c1, hr.out.symm.trans hr1.out, rfl, hP.out, hb1.out⟩
  rw [decide_eq_false (show ¬ y = [114, 97, 99, 107] from h5)] at t5
  by_cases h6 : y = wHost
  · rw [decide_eq_true (show y = [104, 111, 115, 116] from h6)] at t6
    rw [decide_eq_false (show ¬ y = [118, 105, 112] from fun e => by rw [show y = [104, 111, 115, 116] from h6] at e; revert e; decide)] at t7
    rw [decide_eq_false (show ¬ y = [118, 105, 101, 119] from fun e => by rw [show y = [104, 111, 115, 116] from h6] at e; revert e; decide)] at t8
    rw [if_neg (show ¬ y = wFactor from fun e => by rw [show y = [104, 111, 115, 116] from h6] at e; revert e; decide)] at hr
    rw [if_neg (show ¬ y = wDomain from fun e => by rw [show y = [104, 111, 115, 116] from h6] at e; revert e; decide)] at hr
    rw [if_neg (show ¬ y = wSelf from fun e => by rw [show y = [104, 111, 115, 116] from h6] at e; revert e; decide)] at hr
    rw [if_neg (show ¬ y = wVip from fun e => by rw [show y = [104, 111, 115, 116] from h6] at e; revert e; decide)] at hr
    rw [if_neg (show ¬ y = wView from fun e => by rw [show y = [104, 111, 115, 116] from h6] at e; revert e; decide)] at hr
    have hk : kindF y = 4 := by rw [h6]; decide
    rw [hk, if_pos (by decide)] at hr
    have q := qn 4 (by decide) (by decide)
    change Calls _ _ #[_, _, .int .i64 4] _ _ at q
    clear h6 hk
    replace hr := hide hr
    replace q := hide q
    clear qn qf qd qs qv qw
    go_enter Tryd.func65, Tryd.ntmps65
    go_wp2_with fail
    refine (q.out).mono ?_
    rintro e w1 (⟨m, hr1, h0, rfl, hb1⟩ | ⟨c1, hr1, rfl, hP, hb1⟩)
    · replace hb1 := hide hb1
      replace hr1 := hide hr1
      go_wp2_with fail
      go_ret
      exact .inl ⟨m, hr.out.symm.trans hr1.out, h0, rfl, hb1.out⟩
    · replace hb1 := hide hb1
      replace hr1 := hide hr1
      replace hP := hide hP
      go_wp2_with fail
      go_ret
      exact .inr ⟨c1, hr.out.symm.trans hr1.out, rfl, hP.out, hb1.out⟩
  rw [decide_eq_false (show ¬ y = [104, 111, 115, 116] from h6)] at t6
  by_cases h7 : y = wVip
  · rw [decide_eq_true (show y = [118, 105, 112] from h7)] at t7
    rw [decide_eq_false (show ¬ y = [118, 105, 101, 119] from fun e => by rw [show y = [118, 105, 112] from h7] at e; revert e; decide)] at t8
    rw [if_neg (show ¬ y = wFactor from fun e => by rw [show y = [118, 105, 112] from h7] at e; revert e; decide)] at hr
    rw [if_neg (show ¬ y = wDomain from fun e => by rw [show y = [118, 105, 112] from h7] at e; revert e; decide)] at hr
    rw [if_neg (show ¬ y = wSelf from fun e => by rw [show y = [118, 105, 112] from h7] at e; revert e; decide)] at hr
    rw [if_pos h7] at hr
    have q := qv
    clear h7
    replace hr := hide hr
    replace q := hide q
    clear qn qf qd qs qv qw
    go_enter Tryd.func65, Tryd.ntmps65
    go_wp2_with fail
    refine (q.out).mono ?_
    rintro e w1 (⟨m, hr1, h0, rfl, hb1⟩ | ⟨c1, hr1, rfl, hP, hb1⟩)
    · replace hb1 := hide hb1
      replace hr1 := hide hr1
      go_wp2_with fail
      go_ret
      exact .inl ⟨m, hr.out.symm.trans hr1.out, h0, rfl, hb1.out⟩
    · replace hb1 := hide hb1
      replace hr1 := hide hr1
      replace hP := hide hP
      go_wp2_with fail
      go_ret
      exact .inr ⟨c1, hr.out.symm.trans hr1.out, rfl, hP.out, hb1.out⟩
  rw [decide_eq_false (show ¬ y = [118, 105, 112] from h7)] at t7
  by_cases h8 : y = wView
  · rw [decide_eq_true (show y = [118, 105, 101, 119] from h8)] at t8
    rw [if_neg (show ¬ y = wFactor from fun e => by rw [show y = [118, 105, 101, 119] from h8] at e; revert e; decide)] at hr
    rw [if_neg (show ¬ y = wDomain from fun e => by rw [show y = [118, 105, 101, 119] from h8] at e; revert e; decide)] at hr
    rw [if_neg (show ¬ y = wSelf from fun e => by rw [show y = [118, 105, 101, 119] from h8] at e; revert e; decide)] at hr
    rw [if_neg (show ¬ y = wVip from fun e => by rw [show y = [118, 105, 101, 119] from h8] at e; revert e; decide)] at hr
    rw [if_pos h8] at hr
    have q := qw
    clear h8
    replace hr := hide hr
    replace q := hide q
    clear qn qf qd qs qv qw
    go_enter Tryd.func65, Tryd.ntmps65
    go_wp2_with fail
    refine (q.out).mono ?_
    rintro e w1 (⟨m, hr1, h0, rfl, hb1⟩ | ⟨c1, hr1, rfl, hP, hb1⟩)
    · replace hb1 := hide hb1
      replace hr1 := hide hr1
      go_wp2_with fail
      go_ret
      exact .inl ⟨m, hr.out.symm.trans hr1.out, h0, rfl, hb1.out⟩
    · replace hb1 := hide hb1
      replace hr1 := hide hr1
      replace hP := hide hP
      go_wp2_with fail
      go_ret
      exact .inr ⟨c1, hr.out.symm.trans hr1.out, rfl, hP.out, hb1.out⟩
  rw [decide_eq_false (show ¬ y = [118, 105, 101, 119] from h8)] at t8
  have hk : kindF y = 0 := by unfold kindF; rw [if_neg h3, if_neg h4, if_neg h5, if_neg h6]
  rw [if_neg h0, if_neg h1, if_neg h2, if_neg h7, if_neg h8, hk, if_neg (by decide)] at hr
  have hbl : Below w.heap.size w w := Below.refl _ _
  clear h0 h1 h2 h3 h4 h5 h6 h7 h8 hk
  replace hr := hide hr
  replace qn := hide qn
  replace qf := hide qf
  replace qd := hide qd
  replace qs := hide qs
  replace qv := hide qv
  replace qw := hide qw
  replace hbl := hide hbl
  go_enter Tryd.func65, Tryd.ntmps65
  go_wp2_with fail
  go_ret
  exact lineEnd_err hr.out.symm (by decide) hbl.out
end Conf18
end Go.Proofs.YtbcicbiphgeghaaDoor
/- conf, the law: parsed. Conditions: texts of at most 2^16 bytes; the cell of bytealg.MaxLen. -/
namespace Go.Proofs.YtbcicbiphgeghaaDoor
open Go.RowKit Go.ChangeShapes Go.WideShapes Go.ChangeAt Go.Deep
namespace Conf18
open Addr05
theorem kept_cell {S : Nat} {P : Nat → Prop} {w w' : World} (h : KeptS S P w w') {p : Addr} (hp : p.block < S) (hn : ¬ P p.block) : w'.cell? p = w.cell? p := World.cell?_of_block (w := w) (h.block p.block hp hn)
theorem lnA_count (ps : List (List UInt8)) (M : Nat) (h : ∀ x ∈ ps, x.length ≤ M) : ∀ i, ∀ p ∈ lnA ps i, p.2.length ≤ M + 1
  | 0, p, hp => by cases hp
  | i + 1, p, hp => by
    have ih := lnA_count ps M h i
    unfold lnA at hp
    split at hp
    · exact ih p hp
    · rename_i x hx
      split at hp
      · exact ih p hp
      · rcases List.mem_append.1 hp with h1 | h1
        · exact ih p h1
        · rw [List.mem_singleton] at h1
          subst h1
          have h3 := (cut_len x [35]).1
          have h4 := h x (List.mem_of_getElem? hx)
          have h5 := wAt_len (Lib.cut x [35]).1 ((Lib.cut x [35]).1.length + 1)
          show (lnW x).length ≤ M + 1
          unfold lnW wordsF
          omega
set_option maxRecDepth 20000 in
set_option maxHeartbeats 8000000 in
theorem parsed_any (s : List UInt8) (hs : s.length ≤ 65536) (w : World) (hm : MaxAt w) :
    Calls Tryd.prog 31 #[.string (str s)] w fun e w' => ParseEnd s w w' e := by
  have hsl := split_len 10 s
  have hsp := split_part 10 s
  obtain ⟨w0, hw0⟩ : ∃ w0, w.alloc (.cells #[.slice none 0 0, .slice none 0 0, .slice none 0 0, .int .i64 0, .int .i64 0, .bool false, .int .u64 0, .int .u64 0, .bool false, .int .u64 0, .int .u64 0] 73) = w0 := ⟨_, rfl⟩
  have hB0 : Below w.heap.size w w0 := hw0 ▸ (Below.refl _ _).alloc (Nat.le_refl _) _
  have hg0 : w0.heap[w.heap.size]? = some (.cells #[.slice none 0 0, .slice none 0 0, .slice none 0 0, .int .i64 0, .int .i64 0, .bool false, .int .u64 0, .int .u64 0, .bool false, .int .u64 0, .int .u64 0] 73 (0, 0)) := hw0 ▸ blk_new _ _ _
  have q := lines_any s hs w0 (hm.below hB0)
  unfold LinesEnd at q
  unfold ParseEnd
  obtain ⟨ps, hps⟩ : ∃ ps, splitL 10 s = ps := ⟨_, rfl⟩
  obtain ⟨r, hr⟩ : ∃ r, confF s = r := ⟨_, rfl⟩
  rw [hr]
  unfold confF at hr
  rw [hps] at q hsl hsp hr
  have hz0 : w.heap.size < w0.heap.size := lt_of_blk hg0
  clear hps
  replace q := hide q
  replace hsl := hide hsl
  replace hsp := hide hsp
  replace hr := hide hr
  replace hm := hide hm
  replace hB0 := hide hB0
  replace hg0 := hide hg0
  go_enter Tryd.func31, Tryd.ntmps31
  go_wp2_with fail
  refine q.out.mono ?_
  rintro e w1 ⟨hb1, ⟨i, x, h1, h2, h3, rfl⟩ | ⟨hall, v, vs, rfl, hL⟩⟩
  · have hE : Except.error (i + 1, lnBad i x) = r := by
      rw [← hr.out]
      have := lexE_some ps 0 i x h1 (by rw [Nat.zero_add]; exact h2) (fun j y hj hy => by rw [Nat.zero_add]; exact h3 j y hj hy)
      rw [Nat.zero_add] at this
      rw [this]
    have hBE : (lnBad i x != 0) = true := by rw [bne_iff_ne]; exact h2
    have hb2 := hB0.out.trans (hb1.mono (by omega))
    have hg1 := blk_below hb1 hz0 hg0.out
    clear hr h1 h2 h3 q hB0 hg0 hb1
    obtain ⟨en, hen⟩ : ∃ en, lnBad i x = en := ⟨_, rfl⟩
    rw [hen] at hE hBE ⊢
    obtain ⟨no, hno⟩ : ∃ no, i + 1 = no := ⟨_, rfl⟩
    rw [hno] at hE ⊢
    clear hen hno
    replace hE := hide hE
    replace hb2 := hide hb2
    replace hg1 := hide hg1
    go_upto_region 3 with fail
    apply wp_region_lit
    iterate 3 (refine wpList_plain rfl fun K hK => ?_; go_simp; refine hK _ _ ?_; clear hK K)
    refine wpl_st rfl 73 (.tmp 2) (.tmp 19) rfl (w.heap.size) 0 rfl (#[.slice none 0 0, .slice none 0 0, .slice none 0 0, .int .i64 0, .int .i64 0, .bool false, .int .u64 0, .int .u64 0, .bool false, .int .u64 0, .int .u64 0]) rfl hg1.out (by simp) (by kernel_rfl) (cf_one _ _ _ rfl rfl rfl _ _ _ _ _ _ _ _) fun w9 hg9 g9 => ?_
    rw [putA_whole _ _ (by rfl)] at hg9
    have hb9 : Below (w.heap.size) w w9 := (hb2.out).trans (below_grown g9 (by have := (hb2.out).size; omega) (Nat.le_refl _))
    have hld : (loadVar 73 ⟨w.heap.size, 0, none⟩).run Tryd.prog w9 = .ok (.agg (#[.slice none 0 0, .slice none 0 0, .slice none 0 0, .int .i64 0, .int .i64 0, .bool false, .int .u64 0, .int .u64 0, .bool false, .int .u64 0, .int .u64 0])) w9 := by
      simpa using run_loadVar_mid w9 (w.heap.size) 0 73 (#[.slice none 0 0, .slice none 0 0, .slice none 0 0, .int .i64 0, .int .i64 0, .bool false, .int .u64 0, .int .u64 0, .bool false, .int .u64 0, .int .u64 0]).toList _ (blk_range hg9) Tryd.underlying73 rfl (by kernel_rfl)
    clear hg9 g9
    replace hld := hide hld
    replace hb9 := hide hb9
    iterate 2 (refine wpList_plain rfl fun K hK => ?_; go_simp; refine hK _ _ ?_; clear hK K)
    refine wpList_nil ?_
    go_simp
    go_wp2_with fail
    exact bodyPost_ret (v := .tuple #[.agg #[.slice none 0 0, .slice none 0 0, .slice none 0 0, .int .i64 0, .int .i64 0, .bool false, .int .u64 0, .int .u64 0, .bool false, .int .u64 0, .int .u64 0], .int .i64 (no : Int), .int .i64 en]) (by simp [results, Tryd.results31, asAddr, hld.out, Result.andThen]) rfl ⟨hb9.out, .inl ⟨(no, en), hE.out.symm, rfl⟩⟩
  · have hlex : lexE 0 ps = none := lexE_none ps 0 (fun j y hy => by rw [Nat.zero_add]; exact hall j y hy)
    have hr2 := hr.out
    rw [hlex] at hr2
    dsimp only at hr2
    have hwd := lnA_words ps 65536 (fun x hx => Nat.le_trans (hsp.out x hx) hs) ps.length
    have hct := lnA_count ps 65536 (fun x hx => Nat.le_trans (hsp.out x hx) hs) ps.length
    have hln := lnA_len ps ps.length
    have hps4 : ps.length ≤ 4096 := by
      rcases Nat.lt_or_ge 4096 ps.length with h4 | h4
      · have := hall 4096 _ (List.getElem?_eq_getElem h4)
        unfold lnBad at this
        rw [if_pos (Nat.le_refl _)] at this
        cases this
      · exact h4
    obtain ⟨L, hLL⟩ : ∃ L, lnA ps ps.length = L := ⟨_, rfl⟩
    rw [hLL] at hr2 hwd hln hL hct
    obtain ⟨Av, cv, rfl, hat⟩ := hL.at
    have hge : ∀ b off, Av = some ⟨b, off, none⟩ → w0.heap.size ≤ b := fun b off e => by
      subst e
      exact (World.ownsRow.lt hL.row b rfl).1
    obtain ⟨n, hn⟩ : ∃ n, L.length = n := ⟨_, rfl⟩
    rw [hn] at hat hln
    have hn4 : n ≤ 4096 := by omega
    have hb2 := hB0.out.trans (hb1.mono (by omega))
    have hg1 := blk_below hb1 hz0 hg0.out
    have hm1 := hm.out.below hb2
    have hz1 := hb1.size
    rw [hn]
    clear hr q hall hlex hLL hL hln hps4 hB0 hg0 hb1 hsl hsp
    replace hr2 := hide hr2
    replace hwd := hide hwd
    replace hat := hide hat
    replace hb2 := hide hb2
    replace hg1 := hide hg1
    replace hm1 := hide hm1
    replace hn := hide hn
    replace hge := hide hge
    replace hct := hide hct
    obtain ⟨base, hbase⟩ : ∃ b, w1.heap.size = b := ⟨_, rfl⟩
    obtain ⟨w3, hw3⟩ : ∃ w3, w1.alloc (.cells #[.slice none 0 0, .slice none 0 0, .slice none 0 0, .int .i64 140, .int .i64 2, .bool false, .int .u64 0, .int .u64 0, .bool false, .int .u64 0, .int .u64 0, .bool false, .bool false] 146) = w3 := ⟨_, rfl⟩
    have hb3 : Below base w1 w3 := by
      rw [← hbase, ← hw3]
      exact (Below.refl _ _).alloc (Nat.le_refl _) _
    have hz3 : w3.heap.size = base + 1 := by rw [← hw3, World.size_alloc, hbase]
    have hR0 : PlC w3 base base 0 0 startC (.slice none 0 0) (.slice none 0 0) (.slice none 0 0) := by
      have hg : w3.heap[base]? = some (.cells (cfgA startC (.slice none 0 0) (.slice none 0 0) (.slice none 0 0) (.bool false) (.bool false)) 146 (0, 0)) := by
        rw [← hw3, ← hbase]
        exact blk_new _ _ _
      exact ⟨⟨hg, Nat.le_refl _, by decide, World.ownsRow_nil _ _ _ _, World.ownsRow_nil _ _ _ _, World.ownsRow_nil _ _ _ _⟩⟩
    replace hb3 := hide hb3
    replace hR0 := hide hR0
    go_upto_region 5 with fail
    clear hw3
    go_wp2_with fail
    go_loopw [9, 10] (fun iv _ wr => ∃ (i : Nat) (c : Cfg), i ≤ n ∧ iv = .int .i64 (i : Int) ∧ linesF startC (L.take i) = .ok c ∧ c.small i ∧ PlAt base base wr c ∧ Below base w1 wr) (fun iv _ _ => n - (intOf iv).toNat)
    case atStart => exact ⟨0, startC, by omega, rfl, rfl, ⟨Nat.le_refl _, Nat.le_refl _, Nat.le_refl _⟩, ⟨_, _, _, _, _, hR0.out⟩, hb3.out⟩
    case round =>
      obtain ⟨i, c, hi, rfl, hlf, hcs, hRd, hbr⟩ := hrel
      have hi4 : i ≤ 4096 := by omega
      by_cases hin : i < n
      · have hlt : (i : Int) < (n : Int) := by omega
        obtain ⟨b, off, lx, A', c', rfl, hbk, hLi, k0, k1, hW, hwc, hcm⟩ := hat.out i hin
        rw [hbase] at hW hbk
        have k0' := (hbr.cell (p := ⟨b, off + i * 2, none⟩) hbk).trans k0
        have k1' := (hbr.cell (p := ⟨b, off + i * 2 + 1, none⟩) hbk).trans k1
        obtain ⟨hne, hwl⟩ := hwd.out lx (List.mem_of_getElem? hLi)
        have hzr := hbr.size
        have hWr := IsV.below hW hbr
        clear k0 k1 hW
        replace hlf := hide hlf
        replace hcs := hide hcs
        replace hRd := hide hRd
        replace hbr := hide hbr
        replace hLi := hide hLi
        replace hne := hide hne
        replace hwl := hide hwl
        replace hWr := hide hWr
        have hR4 : PlAt base base wr c := hRd.out
        have hm4 := hm1.out.below (by rw [hbase]; exact hbr.out)
        have q5 := lline_any lx.2 c wr base base c' A' hWr.out (by
          have := hne.out
          rcases h : lx.2 with _ | ⟨y, l⟩
          · exact absurd h this
          · simp) (by have := hct.out lx (List.mem_of_getElem? hLi.out); omega) hwl.out hm4 ⟨by have := hcs.out.1; omega, by have := hcs.out.2.1; omega, by have := hcs.out.2.2; omega⟩ hR4
        have hbw0 := hge.out b off rfl
        have wi1 : IntKind.i64.wrap ((i : Int) + 1) = ((i + 1 : Nat) : Int) := by rw [wraps62 _ (by omega) (by omega)]; omega
        clear hR4 hm4 hWr hRd hne hwl
        replace q5 := hide q5
        go_wp2_with fail
        refine (q5.out).mono ?_
        rintro e w5 (⟨m, hr1, h0, rfl, hb5⟩ | ⟨c1, hr1, rfl, hP, hb5⟩)
        · have hlf2 := linesF_err hLi.out hlf.out hr1
          have hE : Except.error (lx.1, (m : Int)) = r := by
            rw [← hr2.out, hlf2]
          have hz5 := hb5.size
          have hbr5 := hbr.out.trans (hb5.mono (by omega))
          have k0b := (hb5.cell (p := ⟨b, off + i * 2, none⟩) (by dsimp only; omega)).trans k0'
          have t : ((m : Int) != 0) = true := by rw [bne_iff_ne]; omega
          clear hr2 hlf2 q5 hb5 hr1 k1'
          replace hE := hide hE
          replace hbr5 := hide hbr5
          go_upto_region 10 with fail
          refine wp_region_X (KeptS w5.heap.size (fun k => k = w.heap.size)) (by as_aux_lemma => kernel_rfl) ?_
          intro w6 hbd
          have hb6 := hbr5.out.trans (hbd.mono (by omega))
          have hg6 := blk_below hb6 (by omega) hg1.out
          have lz := fun l : RelW (KeptS w5.heap.size (fun k => k = w.heap.size)) w6 => (kept_cell l.hk (p := ⟨b, off + i * 2, none⟩) (by dsimp only; omega) (by dsimp only; omega)).trans ((hbd.cell (p := ⟨b, off + i * 2, none⟩) (by dsimp only; omega)).trans k0b)
          have hz6 := hbd.size
          clear hbd hbr5
          replace hb6 := hide hb6
          replace hg6 := hide hg6
          refine wpX_seg (KeptS w5.heap.size (fun k => k = w.heap.size)) 0 7 (fuel := 3) (by as_aux_lemma => kernel_rfl) (fun d _ _ _ _ h => by cases d <;> exact h) (by as_aux_lemma => kernel_rfl) (by as_aux_lemma => kernel_rfl) ?_
          simp only [List.drop_zero, List.take_succ_cons, List.take_zero]
          iterate 7 (refine wpQX_step (fun K hK => ?_); go_simp; refine hK _ ?_; clear hK K)
          refine wpQF_nil ?_
          clear lz
          refine wpF_step 7 rfl (by as_aux_lemma => kernel_rfl) (fun K hK => ?_)
          rw [if_pos (by unfold Region.wanted; rfl)]
          refine wp_st 73 (.tmp 2) (.tmp 40) rfl w.heap.size 0 rfl #[.slice none 0 0, .slice none 0 0, .slice none 0 0, .int .i64 0, .int .i64 0, .bool false, .int .u64 0, .int .u64 0, .bool false, .int .u64 0, .int .u64 0] rfl hg6.out (by simp) (by kernel_rfl) (cf_one _ _ _ rfl rfl rfl _ _ _ _ _ _ _ _) fun w9 hg9 g9 => ?_
          refine hK _ _ (Pkt.keptS_grown1 g9 hz6 rfl) ?_
          clear hK K
          rw [putA_whole _ _ (by rfl)] at hg9
          have hb9 : Below w.heap.size w w9 := (hb2.out.trans (hb6.out.mono (by omega))).trans (below_grown g9 (by omega) (Nat.le_refl _))
          have hld : (loadVar 73 ⟨w.heap.size, 0, none⟩).run Tryd.prog w9 = .ok (.agg #[.slice none 0 0, .slice none 0 0, .slice none 0 0, .int .i64 0, .int .i64 0, .bool false, .int .u64 0, .int .u64 0, .bool false, .int .u64 0, .int .u64 0]) w9 := by
            simpa using run_loadVar_mid w9 w.heap.size 0 73 (#[.slice none 0 0, .slice none 0 0, .slice none 0 0, .int .i64 0, .int .i64 0, .bool false, .int .u64 0, .int .u64 0, .bool false, .int .u64 0, .int .u64 0] : Array Value).toList _ (blk_range hg9) Tryd.underlying73 rfl (by kernel_rfl)
          clear hg9 g9
          replace hld := hide hld
          replace hb9 := hide hb9
          refine wpF_step 8 rfl (by as_aux_lemma => kernel_rfl) (fun K hK => ?_)
          go_simp
          refine hK _ _ (IsRel.refl _) ?_
          clear hK K
          refine wpF_step 9 rfl (by as_aux_lemma => kernel_rfl) (fun K hK => ?_)
          go_simp
          refine hK _ _ (IsRel.refl _) ?_
          clear hK K
          refine wpF_done (by as_aux_lemma => kernel_rfl) ?_ 0
          go_wp2_with fail
          exact bodyPost_ret (v := .tuple #[.agg #[.slice none 0 0, .slice none 0 0, .slice none 0 0, .int .i64 0, .int .i64 0, .bool false, .int .u64 0, .int .u64 0, .bool false, .int .u64 0, .int .u64 0], .int .i64 (lx.1 : Int), .int .i64 (m : Int)]) (by simp [results, Tryd.results31, asAddr, hld.out, Result.andThen]) rfl ⟨hb9.out, .inl ⟨(lx.1, (m : Int)), hE.out.symm, rfl⟩⟩
        · have hlf2 := linesF_next hLi.out hlf.out hr1
          have hs2 := lineF_small hcs.out hr1
          have hbr5 := hbr.out.trans hb5
          clear q5 hb5 hr1 hlf hcs hbr k0' k1'
          replace hlf2 := hide hlf2
          replace hs2 := hide hs2
          replace hbr5 := hide hbr5
          replace hP := hide hP
          go_wp2_with fail
          exact ⟨⟨i + 1, c1, by omega, by first | rfl | go_num, hlf2.out, hs2.out, hP.out, hbr5.out⟩, by simp only [intOf]; omega⟩
      · obtain rfl : i = n := by omega
        have hlt : ((i : Int) < (i : Int)) = False := by simp
        have hLn : L.take i = L := List.take_of_length_le (by rw [hn.out]; exact Nat.le_refl _)
        rw [hLn] at hlf
        have hE : Except.ok c = r := by rw [← hr2.out, hlf]
        obtain ⟨mb, ma, nv, vv, wv, h⟩ := hRd
        obtain ⟨An, cn, hnv, -, -, -⟩ := own_isv h.cfg.nodes
        obtain ⟨Av2, cv2, hvv, -, -, -⟩ := own_isv h.cfg.vips
        obtain ⟨Aw, cw, hwv, -, -, -⟩ := own_isv h.cfg.views
        subst hnv hvv hwv
        have hrg := cfg_range h.cfg
        have hgr := blk_below hbr (by omega) hg1.out
        have hbw := hb2.out.trans (hbr.mono (by omega))
        have hzr := hbr.size
        clear hr2 hLn hlf
        replace h := hide h
        replace hE := hide hE
        replace hgr := hide hgr
        replace hbw := hide hbw
        replace hrg := hide hrg
        replace hcs := hide hcs
        go_upto_region 11 with fail
        apply wp_region_lit
        iterate 3 (refine wpList_plain rfl fun K hK => ?_; go_simp; refine hK _ _ ?_; clear hK K)
        refine wpList_load_mid rfl 73 (.tmp 49) rfl base 0 rfl _ _ hrg.out Tryd.underlying73 rfl (by kernel_rfl) ?_
        simp only [Array.toArray_toList]
        refine wpl_st rfl 73 (.tmp 2) (.tmp 50) rfl w.heap.size 0 rfl (cfC c (.slice An c.nodes.length cn) (.slice Av2 c.vips.length cv2) (.slice Aw c.views.length cw)) rfl hgr.out (Nat.le_refl 11) (by kernel_rfl) (cf_one _ _ _ rfl rfl rfl _ _ _ _ _ _ _ _) fun w9 hg9 g9 => ?_
        rw [putA_whole _ _ (by rfl)] at hg9
        have hb9 : Below w.heap.size w w9 := hbw.out.trans (below_grown g9 (by omega) (Nat.le_refl _))
        have hR9 := h.out.cfg
        have hv : CfgV w9 w.heap.size c (cfC c (.slice An c.nodes.length cn) (.slice Av2 c.vips.length cv2) (.slice Aw c.views.length cw)) :=
          ⟨row_weaken (World.ownsRow.kept hR9.nodes g9 (row_below_g hR9.nodes (by omega))) (by omega), row_weaken (World.ownsRow.kept hR9.vips g9 (row_below_g hR9.vips (by omega))) (by omega), row_weaken (World.ownsRow.kept hR9.views g9 (row_below_g hR9.views (by omega))) (by omega), rfl⟩
        have hld : (loadVar 73 ⟨w.heap.size, 0, none⟩).run Tryd.prog w9 = .ok (.agg (cfC c (.slice An c.nodes.length cn) (.slice Av2 c.vips.length cv2) (.slice Aw c.views.length cw))) w9 := by
          simpa using run_loadVar_mid w9 w.heap.size 0 73 (cfC c (.slice An c.nodes.length cn) (.slice Av2 c.vips.length cv2) (.slice Aw c.views.length cw)).toList _ (blk_range hg9) Tryd.underlying73 rfl (by kernel_rfl)
        clear hg9 g9 hR9
        replace hld := hide hld
        replace hb9 := hide hb9
        replace hv := hide hv
        iterate 2 (refine wpList_plain rfl fun K hK => ?_; go_simp; refine hK _ _ ?_; clear hK K)
        refine wpList_nil ?_
        go_simp
        go_wp2_with fail
        exact bodyPost_ret (v := .tuple #[.agg (cfC c (.slice An c.nodes.length cn) (.slice Av2 c.vips.length cv2) (.slice Aw c.views.length cw)), .int .i64 0, .int .i64 0]) (by simp [results, Tryd.results31, asAddr, hld.out, Result.andThen]) rfl ⟨hb9.out, .inr ⟨c, _, hE.out.symm, rfl, hv.out, by have := hcs.out; exact ⟨by have := this.1; omega, by have := this.2.1; omega, by have := this.2.2; omega⟩⟩⟩
end Conf18
end Go.Proofs.YtbcicbiphgeghaaDoor
