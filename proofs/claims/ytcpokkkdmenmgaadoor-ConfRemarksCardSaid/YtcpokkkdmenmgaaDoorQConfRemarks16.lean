/- conf: view: a line that says where sources begin. Conditions: words of at most 2^16 bytes. -/
import Derived.Test.YtcpokkkdmenmgaaDoorQConfRemarks13
import Derived.Test.YtcpokkkdmenmgaaDoorQConfRemarks10
import Derived.Test.YtcpokkkdmenmgaaDoorQConfRemarks14
import Derived.Test.YtcpokkkdmenmgaaDoorQConfRemarks15
namespace Go.Proofs.YtcpokkkdmenmgaaDoor
open Go.RowKit Go.ChangeShapes Go.WideShapes Go.ChangeAt Go.Deep
namespace Conf18
open Addr05
set_option maxRecDepth 20000 in
set_option maxHeartbeats 8000000 in
theorem view_any (ws : List (List UInt8)) (c : Cfg) (w : World) (base x k : Nat) (A : Option Addr) (hx : IsR strv w base A ws.length ws) (hl : ∀ y ∈ ws, y.length ≤ 65536) (hm : MaxAt w) (hs : c.small 4096) (hR : RdAt base x w c) :
    Calls Tryd.prog 61 #[.pointer (some ⟨x, 0, none⟩), .slice A ws.length k] w fun e w' => LineEnd (RdAt base x) base (viewF c ws) w w' e := by
  obtain ⟨r, hr⟩ : ∃ r, viewF c ws = r := ⟨_, rfl⟩
  rw [hr]
  by_cases hn : ws.length = 3
  · obtain ⟨y0, y1, y2, rfl⟩ := three_words hn
    obtain ⟨b, off, rfl, hb, hc⟩ := words_at hx (by simp)
    have c1 : w.cell? ⟨b, off + 1, none⟩ = some (.string (str y1)) := hc 1 (by simp)
    have c2 : w.cell? ⟨b, off + 2, none⟩ = some (.string (str y2)) := hc 2 (by simp)
    have q := pParse_any y1 (hl y1 (by simp)) w hm
    have q2 := fun w => lexNum_any y2 (Nat.le_trans (hl y2 (by simp)) (by decide)) 3 w
    unfold viewF at hr
    rw [if_neg (by simp), show wd [y0, y1, y2] 1 = y1 from rfl, show wd [y0, y1, y2] 2 = y2 from rfl] at hr
    change Calls Tryd.prog _ #[_, .slice _ 3 _] w _
    obtain ⟨mb, ma, nv, vv, wv, h⟩ := hR
    have hbx := h.cfg.hx
    have hxs := h.xlt
    clear hn hx hl hc hm
    rcases hp : pfxF y1 with _ | ⟨a, n⟩
    · rw [hp] at hr q
      have q1 : Calls Tryd.prog 84 #[.string (str y1)] w fun e w' => e = .returned (.tuple #[.agg #[.bool false, .int .u64 0, .int .u64 0, .int .i64 0], .int .i64 18]) ∧ Below w.heap.size w w' := q
      clear q
      replace h := hide h
      replace hr := hide hr
      replace q1 := hide q1
      replace q2 := hide q2
      replace hp := hide hp
      go_enter Tryd.func61, Tryd.ntmps61
      go_upto_region 3 with fail
      apply wp_region_lit
      iterate 3 (refine wpList_plain rfl fun K hK => ?_; go_simp; refine hK _ _ ?_; clear hK K)
      refine wpList_plain rfl fun K hK => ?_
      go_simp
      refine (q1.out).mono ?_
      rintro e w1 ⟨rfl, hb1⟩
      go_simp
      refine hK _ _ ?_
      clear hK K
      iterate 3 (refine wpList_plain rfl fun K hK => ?_; go_simp; refine hK _ _ ?_; clear hK K)
      refine wpl_new rfl rfl 80 _ (alloc_pfx _ rfl) 5 rfl (.tmp 17) rfl _ (fun _ => rfl) (fun _ => rfl) rfl (by kernel_rfl) (p_one false 0 0 0) ?_
      intro w2 hg2 hb2 hz2
      iterate 1 (refine wpList_plain rfl fun K hK => ?_; go_simp; refine hK _ _ ?_; clear hK K)
      refine wpList_nil ?_
      go_simp
      have hb3 := hb1.trans (hb2.mono (by have := hb1.size; omega))
      clear hg2 hb1 hb2
      replace hb3 := hide hb3
      go_wp2_with fail
      refine bodyPost_ret (v := .int .i64 18) (by simp [results, Tryd.results61, go_sem]) rfl ?_
      exact lineEnd_err hr.out.symm (by decide) hb3.out
    · rw [hp] at hr q
      have q1 : Calls Tryd.prog 84 #[.string (str y1)] w fun e w' => e = .returned (.tuple #[.agg #[.bool a.v6, .int .u64 (a.hi : Int), .int .u64 (a.lo : Int), .int .i64 (n : Int)], .int .i64 0]) ∧ Below w.heap.size w w' := q
      clear q
      dsimp only at hr
      obtain ⟨v6, hi, lo⟩ := a
      dsimp only at q1 hr
      replace h := hide h
      replace hr := hide hr
      replace q1 := hide q1
      replace q2 := hide q2
      replace hp := hide hp
      go_enter Tryd.func61, Tryd.ntmps61
      go_upto_region 3 with fail
      apply wp_region_lit
      iterate 3 (refine wpList_plain rfl fun K hK => ?_; go_simp; refine hK _ _ ?_; clear hK K)
      refine wpList_plain rfl fun K hK => ?_
      go_simp
      refine (q1.out).mono ?_
      rintro e w1 ⟨rfl, hb1⟩
      go_simp
      refine hK _ _ ?_
      clear hK K
      iterate 3 (refine wpList_plain rfl fun K hK => ?_; go_simp; refine hK _ _ ?_; clear hK K)
      refine wpl_new rfl rfl 80 _ (alloc_pfx _ rfl) 5 rfl (.tmp 17) rfl _ (fun _ => rfl) (fun _ => rfl) rfl (by kernel_rfl) (p_one v6 (hi : Int) (lo : Int) (n : Int)) ?_
      intro w2 hg2 hb2 hz2
      iterate 1 (refine wpList_plain rfl fun K hK => ?_; go_simp; refine hK _ _ ?_; clear hK K)
      refine wpList_nil ?_
      go_simp
      have hb3 := hb1.trans (hb2.mono (by have := hb1.size; omega))
      have h2 := (h.out.on hb1).on hb2
      have c2' := (hb3.cell (p := ⟨b, off + 2, none⟩) (by dsimp only; omega)).trans c2
      have hz1 := hb1.size
      clear hb1 hb2 h q1
      rcases hq : lexF y2 3 with _ | m
      · have q3 := q2.out w2
        rw [hq, lexV_none] at q3
        have hr2 := hr.out
        rw [hq] at hr2
        clear hr q2 hg2
        replace hb3 := hide hb3
        replace h2 := hide h2
        replace q3 := hide q3
        replace hr2 := hide hr2
        replace hq := hide hq
        go_wp2_with fail
        refine (q3.out).mono ?_
        rintro e w2 ⟨rfl, rfl⟩
        go_wp2_with fail
        refine bodyPost_ret (v := .int .i64 5) (by simp [results, Tryd.results61, go_sem]) rfl ?_
        exact lineEnd_err hr2.out.symm (by decide) hb3.out
      · have q3 := q2.out w2
        rw [hq, lexV_some] at q3
        have hr2 := hr.out
        rw [hq] at hr2
        clear hr q2
        replace hb3 := hide hb3
        replace h2 := hide h2
        replace q3 := hide q3
        replace hr2 := hide hr2
        replace hq := hide hq
        replace hg2 := hide hg2
        go_wp2_with fail
        refine (q3.out).mono ?_
        rintro e w2 ⟨rfl, rfl⟩
        go_upto_region 9 with fail
        have hrx := row_not_x h2.out.cfg.views h2.out.cfg.blk h2.out.cfg.hT.2.2
        have hrz : (wv.ownBlock = some w1.heap.size) → False := fun e => by
          obtain ⟨_, _, e2, _⟩ := own_isv h2.out.cfg.views
          rcases h2.out.cfg.views.2 with ⟨e3, _⟩ | ⟨g, cap, cur, e3, hg, hh, _⟩
          · rw [e3] at e; cases e
          · rw [e3] at e
            have e4 : g = w1.heap.size := by simpa [Value.ownBlock] using e
            subst e4
            have := hg2.out
            rw [hh] at this
            simp at this
        refine wp_region_Y [14] (KeptS w2.heap.size (fun k => wv.ownBlock = some k)) (by as_aux_lemma => kernel_rfl) ?_
        intro we hbe
        have hLe := h2.out.on hbe
        have hge := blk_below hbe hz2 hg2.out
        have hBe := (hb3.out.mono (B' := base) (by omega)).trans (hbe.mono (by omega))
        have ze := hbe.size
        have lx := fun l : RelW (KeptS w2.heap.size (fun k => wv.ownBlock = some k)) we => (show l.w.cell? ⟨x, 2, none⟩ = some wv from blk_cell ((l.hk.block x h2.out.xlt (by rcases hrx with e | e <;> (intro e2; first | (rw [e] at e2; cases e2) | exact e e2))).trans hLe.cfg.blk) 2)
        have lz := fun l : RelW (KeptS w2.heap.size (fun k => wv.ownBlock = some k)) we => blk_cell ((l.hk.block w1.heap.size hz2 hrz).trans hge)
        clear h2 hg2 hb3 hbe hrx hrz
        replace hLe := hide hLe
        replace hBe := hide hBe
        refine wpY_seg [14] (KeptS w2.heap.size (fun k => wv.ownBlock = some k)) 0 9 (fuel := 6) (by as_aux_lemma => kernel_rfl) (fun d _ _ _ _ h => by cases d <;> exact h) (by as_aux_lemma => kernel_rfl) (by as_aux_lemma => kernel_rfl) (by as_aux_lemma => kernel_rfl) ?_
        simp only [List.drop_zero, List.take_succ_cons, List.take_zero]
        iterate 9 (refine wpQX_step (fun K hK => ?_); go_simp; refine hK _ ?_; clear hK K)
        refine wpQF_nil ?_
        clear lx lz hge
        refine wpW_step 9 rfl (by as_aux_lemma => kernel_rfl) (fun K hK => ?_)
        go_simp
        refine hK _ _ (relY_of (keptS_of_below ((Below.refl _ _).alloc (Nat.le_refl _) _) ze)) ?_
        clear hK K
        obtain ⟨w10, hw10⟩ : ∃ w10, we.alloc (.cells (vwC ⟨⟨v6, hi, lo⟩, (n : Int), (m : Int)⟩).toArray 82) = w10 := ⟨_, rfl⟩
        have hb10 : Below we.heap.size we w10 := hw10 ▸ (Below.refl _ _).alloc (Nat.le_refl _) _
        have hn10 : w10.heap[we.heap.size]? = some (.cells (vwC ⟨⟨v6, hi, lo⟩, (n : Int), (m : Int)⟩).toArray 82 (0, 0)) := hw10 ▸ blk_new _ _ _
        change wpW _ _ _ _ _ _ _ _ (we.alloc (.cells (vwC ⟨⟨v6, hi, lo⟩, (n : Int), (m : Int)⟩).toArray 82))
        rw [hw10]
        have hL10 := hLe.out.on hb10
        have hB10 := hBe.out.trans (hb10.mono (by omega))
        have z10 := hb10.size
        clear hw10 hb10 hLe hBe
        refine wpW_step 10 rfl (by as_aux_lemma => kernel_rfl) (fun K hK => ?_)
        rw [if_pos (by unfold Region.wanted; rfl)]
        refine wp_app_c (T := 82) Tryd.underlying24 info_vw rfl (by decide) (by decide) (.tmp 36) (.tmp 40) rfl base wv c.views.length _ (vwC ⟨⟨v6, hi, lo⟩, (n : Int), (m : Int)⟩) we.heap.size rfl rfl hL10.cfg.views hn10 rfl (vwC_one _) (by omega) (by have := hs.2.2; omega) fun v11 w11 h1 h2 => hK _ _ (relY_of ⟨h2.grown.os, h2.grown.tape, h2.grown.output, h2.grown.size, fun k hk hne => h2.grown.block k (by omega) (fun e => hne e.symm)⟩) ?_
        clear hK K hn10
        obtain ⟨A11, c11, hv11, -, -, -⟩ := own_isv h1
        subst hv11
        obtain ⟨hx11, hL12⟩ := hL10.pushW h1 h2
        have hB11 := hB10.trans (below_of_grown h2.grown (by omega) (fun k hk => (World.ownsRow.lt hL10.cfg.views _ hk).1))
        have hB12 : Below base w (w11.setCell ⟨x, 2, none⟩ (.slice A11 (c.views.length + 1) c11)) := hB11.setCell (p := ⟨x, 2, none⟩) hbx _
        have hc : w11.cell? ⟨x, 2, none⟩ = some wv := blk_cell hx11 2
        have hf := blk_free hx11 2
        clear h1 h2 hL10 hB10 hB11 hx11
        obtain ⟨w12, hw12⟩ : ∃ w12, w11.setCell ⟨x, 2, none⟩ (.slice A11 (c.views.length + 1) c11) = w12 := ⟨_, rfl⟩
        rw [hw12] at hL12 hB12
        replace hL12 := hide hL12
        replace hB12 := hide hB12
        refine wpW_step 11 rfl (by as_aux_lemma => kernel_rfl) (fun K hK => ?_)
        go_simp
        refine hK _ _ (relY_of (IsRel.refl _)) ?_
        clear hK K
        refine wpW_step 12 rfl (by as_aux_lemma => kernel_rfl) (fun K hK => ?_)
        go_simp
        refine hK _ _ (relY_of (IsRel.refl _)) ?_
        clear hK K
        refine wpW_step 13 rfl (by as_aux_lemma => kernel_rfl) (fun K hK => ?_)
        go_simp
        refine hK _ _ (relY_of (IsRel.refl _)) ?_
        clear hK K
        refine wpW_step 14 rfl (by as_aux_lemma => kernel_rfl) (fun K hK => ?_)
        go_simp
        refine hK _ _ (relY_wr (by as_aux_lemma => kernel_rfl)) ?_
        clear hK K hc hf hw12
        refine wpW_done (by as_aux_lemma => kernel_rfl) ?_ _
        go_wp2_with fail
        refine bodyPost_ret (v := .int .i64 0) (by simp [results, Tryd.results61, go_sem]) rfl ?_
        exact lineEnd_ok hr2.out.symm ⟨mb, ma, nv, vv, _, hL12.out⟩ hB12.out
  · have t : ((ws.length : Int) != 3) = true := ne_nat (k := 3) hn
    unfold viewF at hr
    rw [if_pos hn] at hr
    clear hn hx hl hm
    replace hR := hide hR
    replace hr := hide hr
    go_enter Tryd.func61, Tryd.ntmps61
    go_wp2_with fail
    go_ret
    exact lineEnd_err hr.out.symm (by decide) (Below.refl _ _)
end Conf18
end Go.Proofs.YtcpokkkdmenmgaaDoor
/- conf: self: a line that says from which address packets are sent. Conditions: words of at most 2^16 bytes. -/
namespace Go.Proofs.YtcpokkkdmenmgaaDoor
open Go.RowKit Go.ChangeShapes Go.WideShapes Go.ChangeAt Go.Deep
namespace Conf18
open Addr05
theorem isZ_iff (a : Adr) : Adr.isZ a = true ↔ a = zA := by
  obtain ⟨v6, hi, lo⟩ := a
  unfold Adr.isZ zA
  rw [decide_eq_true_iff]
  constructor
  · rintro ⟨rfl, rfl, rfl⟩; rfl
  · intro h; cases h; exact ⟨rfl, rfl, rfl⟩
set_option maxRecDepth 20000 in
set_option maxHeartbeats 8000000 in
theorem self_any (ws : List (List UInt8)) (c : Cfg) (w : World) (base x k : Nat) (A : Option Addr) (hx : IsR strv w base A ws.length ws) (hl : ∀ y ∈ ws, y.length ≤ 65536) (hm : MaxAt w) (hR : RdAt base x w c) :
    Calls Tryd.prog 59 #[.pointer (some ⟨x, 0, none⟩), .slice A ws.length k] w fun e w' => LineEnd (RdAt base x) base (selfF c ws) w w' e := by
  obtain ⟨r, hr⟩ : ∃ r, selfF c ws = r := ⟨_, rfl⟩
  rw [hr]
  by_cases hn : ws.length = 2
  · obtain ⟨y0, y1, rfl⟩ := two_words hn
    obtain ⟨b, off, rfl, hb, hc⟩ := words_at hx (by simp)
    have c1 : w.cell? ⟨b, off + 1, none⟩ = some (.string (str y1)) := hc 1 (by simp)
    have q := Parse_any y1 (hl y1 (by simp)) w hm
    unfold selfF at hr
    rw [if_neg (by simp), show wd [y0, y1] 1 = y1 from rfl] at hr
    change Calls Tryd.prog _ #[_, .slice _ 2 _] w _
    obtain ⟨mb, ma, nv, vv, wv, h⟩ := hR
    have hbx := h.cfg.hx
    have hxs := h.xlt
    clear hn hx hl hc hm
    rcases hp : parseF y1 with _ | a
    · rw [hp] at hr q
      have q1 : Calls Tryd.prog 82 #[.string (str y1)] w fun e w' => e = .returned (.tuple #[.agg #[.bool false, .int .u64 0, .int .u64 0], .int .i64 18]) ∧ Below w.heap.size w w' := q
      clear q
      replace h := hide h
      replace hr := hide hr
      replace q1 := hide q1
      replace hp := hide hp
      go_enter Tryd.func59, Tryd.ntmps59
      go_upto_region 3 with fail
      apply wp_region_lit
      iterate 3 (refine wpList_plain rfl fun K hK => ?_; go_simp; refine hK _ _ ?_; clear hK K)
      refine wpList_plain rfl fun K hK => ?_
      go_simp
      refine (q1.out).mono ?_
      rintro e w1 ⟨rfl, hb1⟩
      go_simp
      refine hK _ _ ?_
      clear hK K
      iterate 3 (refine wpList_plain rfl fun K hK => ?_; go_simp; refine hK _ _ ?_; clear hK K)
      refine wpl_new rfl rfl 27 _ (alloc_adr _ rfl) 5 rfl (.tmp 16) rfl _ (fun _ => rfl) (fun _ => rfl) rfl (by kernel_rfl) (adr_one false 0 0) ?_
      intro w2 hg2 hb2 hz2
      iterate 1 (refine wpList_plain rfl fun K hK => ?_; go_simp; refine hK _ _ ?_; clear hK K)
      refine wpList_nil ?_
      go_simp
      have hb3 := hb1.trans (hb2.mono (by have := hb1.size; omega))
      clear hg2 hb1 hb2
      replace hb3 := hide hb3
      go_wp2_with fail
      refine bodyPost_ret (v := .int .i64 18) (by simp [results, Tryd.results59, go_sem]) rfl ?_
      exact lineEnd_err hr.out.symm (by decide) hb3.out
    · rw [hp] at hr q
      obtain ⟨v6, hi, lo⟩ := a
      have q1 : Calls Tryd.prog 82 #[.string (str y1)] w fun e w' => e = .returned (.tuple #[.agg #[.bool v6, .int .u64 (hi : Int), .int .u64 (lo : Int)], .int .i64 0]) ∧ Below w.heap.size w w' := q
      clear q
      dsimp only at hr
      replace h := hide h
      replace hr := hide hr
      replace q1 := hide q1
      replace hp := hide hp
      go_enter Tryd.func59, Tryd.ntmps59
      go_upto_region 3 with fail
      apply wp_region_lit
      iterate 3 (refine wpList_plain rfl fun K hK => ?_; go_simp; refine hK _ _ ?_; clear hK K)
      refine wpList_plain rfl fun K hK => ?_
      go_simp
      refine (q1.out).mono ?_
      rintro e w1 ⟨rfl, hb1⟩
      go_simp
      refine hK _ _ ?_
      clear hK K
      iterate 3 (refine wpList_plain rfl fun K hK => ?_; go_simp; refine hK _ _ ?_; clear hK K)
      refine wpl_new rfl rfl 27 _ (alloc_adr _ rfl) 5 rfl (.tmp 16) rfl _ (fun _ => rfl) (fun _ => rfl) rfl (by kernel_rfl) (adr_one v6 (hi : Int) (lo : Int)) ?_
      intro w2 hg2 hb2 hz2
      iterate 1 (refine wpList_plain rfl fun K hK => ?_; go_simp; refine hK _ _ ?_; clear hK K)
      refine wpList_nil ?_
      go_simp
      have hb3 := hb1.trans (hb2.mono (by have := hb1.size; omega))
      have h2 := (h.out.on hb1).on hb2
      have hz1 := hb1.size
      have c0 := blk_cell hg2
      have k5 : w2.cell? ⟨x, 5, none⟩ = some (.bool c.s0.v6) := blk_cell h2.cfg.blk 5
      have k6 : w2.cell? ⟨x, 6, none⟩ = some (.int .u64 (c.s0.hi : Int)) := blk_cell h2.cfg.blk 6
      have k7 : w2.cell? ⟨x, 7, none⟩ = some (.int .u64 (c.s0.lo : Int)) := blk_cell h2.cfg.blk 7
      have k8 : w2.cell? ⟨x, 8, none⟩ = some (.bool c.s1.v6) := blk_cell h2.cfg.blk 8
      have k9 : w2.cell? ⟨x, 9, none⟩ = some (.int .u64 (c.s1.hi : Int)) := blk_cell h2.cfg.blk 9
      have k10 : w2.cell? ⟨x, 10, none⟩ = some (.int .u64 (c.s1.lo : Int)) := blk_cell h2.cfg.blk 10
      have hr2 := hr.out
      clear hb1 hb2 h q1 hr
      have hr := hr2
      clear hr2
      replace hb3 := hide hb3
      replace h2 := hide h2
      replace hg2 := hide hg2
      cases v6
      · simp only [Bool.false_eq_true, ↓reduceIte] at hr
        obtain ⟨B, hB⟩ : ∃ B, decide (c.s0 = zA) = B := ⟨_, rfl⟩
        have hZ : Adr.isZ c.s0 = B := by rw [← hB, Bool.eq_iff_iff, isZ_iff, decide_eq_true_iff]
        obtain ⟨B2, hB2⟩ : ∃ B2, decide ((⟨false, hi, lo⟩ : Adr) = zA) = B2 := ⟨_, rfl⟩
        have hZ2 : Adr.isZ ⟨false, hi, lo⟩ = B2 := by rw [← hB2, Bool.eq_iff_iff, isZ_iff, decide_eq_true_iff]
        rw [hZ, hZ2] at hr
        replace hr := hide hr
        replace hZ := hide hZ
        replace hZ2 := hide hZ2
        go_upto_region 9 with fail
        apply wp_region_lit
        iterate 8 (refine wpList_plain rfl fun K hK => ?_; go_simp; refine hK _ _ ?_; clear hK K)
        refine wpl_neA rfl (.tmp 29) (.tmp 30) rfl c.s0 zA rfl rfl ?_
        rw [hB]
        refine wpList_nil ?_
        go_simp
        cases B
        · go_wp2_with fail
          refine bodyPost_ret (v := .int .i64 8) (by simp [results, Tryd.results59, go_sem]) rfl ?_
          exact lineEnd_err (hr.out.symm.trans (if_pos trivial)) (by decide) hb3.out
        · go_upto_region 11 with fail
          apply wp_region_lit
          iterate 2 (refine wpList_plain rfl fun K hK => ?_; go_simp; refine hK _ _ ?_; clear hK K)
          refine wpl_eqA rfl (.tmp 32) (.tmp 33) rfl ⟨false, hi, lo⟩ zA rfl rfl ?_
          rw [hB2]
          refine wpList_nil ?_
          go_simp
          have hr3 := hr.out
          rw [if_neg (by decide)] at hr3
          clear hr
          cases B2
          · rw [if_neg (by decide)] at hr3
            replace hr3 := hide hr3
            go_upto_region 13 with fail
            refine wp_region_X (KeptS w2.heap.size (fun k => k = x)) (by as_aux_lemma => kernel_rfl) ?_
            intro we hbe
            have hLe := h2.out.on hbe
            have hBe := (hb3.out.mono (B' := base) (by omega)).trans (hbe.mono (by omega))
            have lz := fun l : RelW (KeptS w2.heap.size (fun k => k = x)) we => blk_cell ((l.hk.block w1.heap.size hz2 (fun e => by omega)).trans (blk_below hbe hz2 hg2.out))
            have e5 : we.cell? ⟨x, 5, none⟩ = some (.bool c.s0.v6) := blk_cell hLe.cfg.blk 5
            have e6 : we.cell? ⟨x, 6, none⟩ = some (.int .u64 (c.s0.hi : Int)) := blk_cell hLe.cfg.blk 6
            have e7 : we.cell? ⟨x, 7, none⟩ = some (.int .u64 (c.s0.lo : Int)) := blk_cell hLe.cfg.blk 7
            have f5 := blk_free hLe.cfg.blk
            have g1 := hLe.set (c' := { c with s0 := ⟨false, c.s0.hi, c.s0.lo⟩ }) 5 (.bool false) rfl rfl rfl rfl rfl rfl
            have g2 := g1.set (c' := { c with s0 := ⟨false, hi, c.s0.lo⟩ }) 6 (.int .u64 (hi : Int)) rfl rfl rfl rfl rfl rfl
            have g3 := g2.set (c' := { c with s0 := ⟨false, hi, lo⟩ }) 7 (.int .u64 (lo : Int)) rfl rfl rfl rfl rfl rfl
            have hBf := ((hBe.trans (hLe.below_set 5 (.bool false))).trans (g1.below_set 6 (.int .u64 (hi : Int)))).trans (g2.below_set 7 (.int .u64 (lo : Int)))
            obtain ⟨w9, hw9⟩ : ∃ w9, ((we.setCell ⟨x, 5, none⟩ (.bool false)).setCell ⟨x, 6, none⟩ (.int .u64 (hi : Int))).setCell ⟨x, 7, none⟩ (.int .u64 (lo : Int)) = w9 := ⟨_, rfl⟩
            have hk9 : KeptS w2.heap.size (fun k => k = x) we w9 := hw9 ▸ keptS_set (P := fun k => k = x) (keptS_set (P := fun k => k = x) (keptS_set (P := fun k => k = x) (keptS_refl w2.heap.size (fun k => k = x) we) (p := ⟨x, 5, none⟩) rfl _) (p := ⟨x, 6, none⟩) rfl _) (p := ⟨x, 7, none⟩) rfl _
            rw [hw9] at g3 hBf
            clear hLe hBe hbe g1 g2 h2 hg2 hb3 k5 k6 k7 k8 k9 k10 c0
            replace g3 := hide g3
            replace hBf := hide hBf
            replace hk9 := hide hk9
            refine wpX_seg (KeptS w2.heap.size (fun k => k = x)) 0 7 (fuel := 1) (by as_aux_lemma => kernel_rfl) (fun d _ _ _ _ h => by cases d <;> exact h) (by as_aux_lemma => kernel_rfl) (by as_aux_lemma => kernel_rfl) ?_
            simp only [List.drop_zero, List.take_succ_cons, List.take_zero]
            iterate 7 (refine wpQX_step (fun K hK => ?_); go_simp; refine hK _ ?_; clear hK K)
            refine wpQF_nil ?_
            clear lz
            refine wpF_step 7 rfl (by as_aux_lemma => kernel_rfl) (fun K hK => ?_)
            go_simp
            refine hK _ _ hk9.out ?_
            clear hK K e5 e6 e7 f5 hw9
            refine wpF_done (by as_aux_lemma => kernel_rfl) ?_ 0
            go_wp2_with fail
            refine bodyPost_ret (v := .int .i64 0) (by simp [results, Tryd.results59, go_sem]) rfl ?_
            exact lineEnd_ok hr3.out.symm ⟨mb, ma, nv, vv, wv, g3.out⟩ hBf.out
          · rw [if_pos rfl] at hr3
            replace hr3 := hide hr3
            go_wp2_with fail
            refine bodyPost_ret (v := .int .i64 18) (by simp [results, Tryd.results59, go_sem]) rfl ?_
            exact lineEnd_err hr3.out.symm (by decide) hb3.out
      · simp only [↓reduceIte] at hr
        obtain ⟨B, hB⟩ : ∃ B, decide (c.s1 = zA) = B := ⟨_, rfl⟩
        have hZ : Adr.isZ c.s1 = B := by rw [← hB, Bool.eq_iff_iff, isZ_iff, decide_eq_true_iff]
        obtain ⟨B2, hB2⟩ : ∃ B2, decide ((⟨true, hi, lo⟩ : Adr) = zA) = B2 := ⟨_, rfl⟩
        have hZ2 : Adr.isZ ⟨true, hi, lo⟩ = B2 := by rw [← hB2, Bool.eq_iff_iff, isZ_iff, decide_eq_true_iff]
        rw [hZ, hZ2] at hr
        replace hr := hide hr
        replace hZ := hide hZ
        replace hZ2 := hide hZ2
        go_upto_region 9 with fail
        apply wp_region_lit
        iterate 8 (refine wpList_plain rfl fun K hK => ?_; go_simp; refine hK _ _ ?_; clear hK K)
        refine wpl_neA rfl (.tmp 29) (.tmp 30) rfl c.s1 zA rfl rfl ?_
        rw [hB]
        refine wpList_nil ?_
        go_simp
        cases B
        · go_wp2_with fail
          refine bodyPost_ret (v := .int .i64 8) (by simp [results, Tryd.results59, go_sem]) rfl ?_
          exact lineEnd_err (hr.out.symm.trans (if_pos trivial)) (by decide) hb3.out
        · go_upto_region 11 with fail
          apply wp_region_lit
          iterate 2 (refine wpList_plain rfl fun K hK => ?_; go_simp; refine hK _ _ ?_; clear hK K)
          refine wpl_eqA rfl (.tmp 32) (.tmp 33) rfl ⟨true, hi, lo⟩ zA rfl rfl ?_
          rw [hB2]
          refine wpList_nil ?_
          go_simp
          have hr3 := hr.out
          rw [if_neg (by decide)] at hr3
          clear hr
          cases B2
          · rw [if_neg (by decide)] at hr3
            replace hr3 := hide hr3
            go_upto_region 13 with fail
            refine wp_region_X (KeptS w2.heap.size (fun k => k = x)) (by as_aux_lemma => kernel_rfl) ?_
            intro we hbe
            have hLe := h2.out.on hbe
            have hBe := (hb3.out.mono (B' := base) (by omega)).trans (hbe.mono (by omega))
            have lz := fun l : RelW (KeptS w2.heap.size (fun k => k = x)) we => blk_cell ((l.hk.block w1.heap.size hz2 (fun e => by omega)).trans (blk_below hbe hz2 hg2.out))
            have e5 : we.cell? ⟨x, 8, none⟩ = some (.bool c.s1.v6) := blk_cell hLe.cfg.blk 8
            have e6 : we.cell? ⟨x, 9, none⟩ = some (.int .u64 (c.s1.hi : Int)) := blk_cell hLe.cfg.blk 9
            have e7 : we.cell? ⟨x, 10, none⟩ = some (.int .u64 (c.s1.lo : Int)) := blk_cell hLe.cfg.blk 10
            have f5 := blk_free hLe.cfg.blk
            have g1 := hLe.set (c' := { c with s1 := ⟨true, c.s1.hi, c.s1.lo⟩ }) 8 (.bool true) rfl rfl rfl rfl rfl rfl
            have g2 := g1.set (c' := { c with s1 := ⟨true, hi, c.s1.lo⟩ }) 9 (.int .u64 (hi : Int)) rfl rfl rfl rfl rfl rfl
            have g3 := g2.set (c' := { c with s1 := ⟨true, hi, lo⟩ }) 10 (.int .u64 (lo : Int)) rfl rfl rfl rfl rfl rfl
            have hBf := ((hBe.trans (hLe.below_set 8 (.bool true))).trans (g1.below_set 9 (.int .u64 (hi : Int)))).trans (g2.below_set 10 (.int .u64 (lo : Int)))
            obtain ⟨w9, hw9⟩ : ∃ w9, ((we.setCell ⟨x, 8, none⟩ (.bool true)).setCell ⟨x, 9, none⟩ (.int .u64 (hi : Int))).setCell ⟨x, 10, none⟩ (.int .u64 (lo : Int)) = w9 := ⟨_, rfl⟩
            have hk9 : KeptS w2.heap.size (fun k => k = x) we w9 := hw9 ▸ keptS_set (P := fun k => k = x) (keptS_set (P := fun k => k = x) (keptS_set (P := fun k => k = x) (keptS_refl w2.heap.size (fun k => k = x) we) (p := ⟨x, 8, none⟩) rfl _) (p := ⟨x, 9, none⟩) rfl _) (p := ⟨x, 10, none⟩) rfl _
            rw [hw9] at g3 hBf
            clear hLe hBe hbe g1 g2 h2 hg2 hb3 k5 k6 k7 k8 k9 k10 c0
            replace g3 := hide g3
            replace hBf := hide hBf
            replace hk9 := hide hk9
            refine wpX_seg (KeptS w2.heap.size (fun k => k = x)) 0 7 (fuel := 1) (by as_aux_lemma => kernel_rfl) (fun d _ _ _ _ h => by cases d <;> exact h) (by as_aux_lemma => kernel_rfl) (by as_aux_lemma => kernel_rfl) ?_
            simp only [List.drop_zero, List.take_succ_cons, List.take_zero]
            iterate 7 (refine wpQX_step (fun K hK => ?_); go_simp; refine hK _ ?_; clear hK K)
            refine wpQF_nil ?_
            clear lz
            refine wpF_step 7 rfl (by as_aux_lemma => kernel_rfl) (fun K hK => ?_)
            go_simp
            refine hK _ _ hk9.out ?_
            clear hK K e5 e6 e7 f5 hw9
            refine wpF_done (by as_aux_lemma => kernel_rfl) ?_ 0
            go_wp2_with fail
            refine bodyPost_ret (v := .int .i64 0) (by simp [results, Tryd.results59, go_sem]) rfl ?_
            exact lineEnd_ok hr3.out.symm ⟨mb, ma, nv, vv, wv, g3.out⟩ hBf.out
          · rw [if_pos rfl] at hr3
            replace hr3 := hide hr3
            go_wp2_with fail
            refine bodyPost_ret (v := .int .i64 18) (by simp [results, Tryd.results59, go_sem]) rfl ?_
            exact lineEnd_err hr3.out.symm (by decide) hb3.out
  · have t : ((ws.length : Int) != 2) = true := ne_nat (k := 2) hn
    unfold selfF at hr
    rw [if_pos hn] at hr
    clear hn hx hl hm
    replace hR := hide hR
    replace hr := hide hr
    go_enter Tryd.func59, Tryd.ntmps59
    go_wp2_with fail
    go_ret
    exact lineEnd_err hr.out.symm (by decide) (Below.refl _ _)
end Conf18
end Go.Proofs.YtcpokkkdmenmgaaDoor
/- conf: line: one of the lines. Conditions: words of at most 2^16 bytes. -/
namespace Go.Proofs.YtcpokkkdmenmgaaDoor
open Go.RowKit Go.ChangeShapes Go.WideShapes Go.ChangeAt Go.Deep
namespace Conf18
open Addr05
set_option maxRecDepth 20000 in
set_option maxHeartbeats 8000000 in
/-- A node's line that has too few words, or too many. -/
theorem nodeF_any (ws : List (List UInt8)) (k : Nat) (hk : kindF (wd ws 0) = k) (hk1 : 1 ≤ k) (c : Cfg) (w : World) (base x cap : Nat) (A : Option Addr) (hx : IsR strv w base A ws.length ws) (hn0 : 0 < ws.length) (hbad : ws.length < leastF k ∨ mostF k < ws.length) (hR : RdAt base x w c) :
    Calls Tryd.prog 62 #[.pointer (some ⟨x, 0, none⟩), .slice A ws.length cap] w fun e w' => LineEnd (RdAt base x) base (nodeF k c ws) w w' e := by
  have hr : nodeF k c ws = .error 4 := by unfold nodeF; rw [if_pos hbad]
  rw [hr]
  have hk4 : k ≤ 4 := hk ▸ kindF_le _
  obtain ⟨b, off, rfl, hb, hc⟩ := words_at hx hn0
  have c0 := hc 0 hn0
  rw [Nat.add_zero] at c0
  have hbz : base ≤ w.heap.size := by
    obtain ⟨mb, ma, nv, vv, wv, h⟩ := hR
    have := h.cfg.hx
    have := h.xlt
    omega
  have qk := kind_any (wd ws 0) w
  rw [hk] at qk
  have i2 := idx_most k hk1 hk4
  have i3 := idx_least k hk1 hk4
  obtain ⟨n, hn⟩ : ∃ n, ws.length = n := ⟨_, rfl⟩
  rw [hn] at hn0 hbad ⊢
  obtain ⟨L, hL⟩ : ∃ L, leastF k = L := ⟨_, rfl⟩
  obtain ⟨M, hM⟩ : ∃ M, mostF k = M := ⟨_, rfl⟩
  rw [hL] at i3 hbad
  rw [hM] at i2 hbad
  have hn1 : (0 : Int) < (n : Int) := by omega
  have t : ((n : Int) < (L : Int) ∨ (M : Int) < (n : Int)) := by omega
  obtain ⟨z, hz⟩ : ∃ z, w.heap.size = z := ⟨_, rfl⟩
  rw [hz] at hbz
  clear hR hx hc hk hbad hr hL hM hn
  replace qk := hide qk
  go_enter Tryd.func62, Tryd.ntmps62
  go_upto_region 1 with fail
  apply wp_region_lit
  iterate 3 (refine wpList_plain rfl fun K hK => ?_; go_simp; refine hK _ _ ?_; clear hK K)
  refine wpList_plain rfl fun K hK => ?_
  go_simp
  refine (qk.out).mono ?_
  rintro e w ⟨rfl, rfl⟩
  go_simp
  refine hK _ _ ?_
  clear hK K
  iterate 1 (refine wpList_plain rfl fun K hK => ?_; go_simp; refine hK _ _ ?_; clear hK K)
  refine wpl_new rfl rfl 72 _ (alloc_nd _ rfl) 5 rfl (.tmp 20) rfl _ (fun _ => rfl) (fun _ => rfl) rfl (by kernel_rfl) (nd_one ⟨#[]⟩ (k : Int) (-1) 0 false 0 0) ?_
  intro w1 hg1 hb1 hz1
  rw [hz] at hg1 hb1 hz1
  refine wpList_nil ?_
  go_simp
  have hgc := blk_cell hg1
  clear qk hg1
  replace hb1 := hide hb1
  by_cases t1 : (n : Int) < (L : Int)
  · clear t
    go_wp2_with fail
    refine bodyPost_ret (v := .int .i64 4) (by simp [results, Tryd.results62, go_sem]) rfl ?_
    exact lineEnd_err (n := 4) rfl (by decide) (by rw [hz]; exact hb1.out)
  · have t2 : (M : Int) < (n : Int) := by omega
    clear t
    go_wp2_with fail
    refine bodyPost_ret (v := .int .i64 4) (by simp [results, Tryd.results62, go_sem]) rfl ?_
    exact lineEnd_err (n := 4) rfl (by decide) (by rw [hz]; exact hb1.out)
theorem four_words {α : Type} {l : List α} (h : l.length = 4) : ∃ a b c d, l = [a, b, c, d] := by
  match l, h with
  | [a, b, c, d], _ => exact ⟨a, b, c, d, rfl⟩
theorem five_words {α : Type} {l : List α} (h : l.length = 5) : ∃ a b c d e, l = [a, b, c, d, e] := by
  match l, h with
  | [a, b, c, d, e], _ => exact ⟨a, b, c, d, e, rfl⟩
theorem node_any (ws : List (List UInt8)) (k : Nat) (hk : kindF (wd ws 0) = k) (hk1 : 1 ≤ k) (c : Cfg) (w : World) (base x cap : Nat) (A : Option Addr) (hx : IsR strv w base A ws.length ws) (hn0 : 0 < ws.length) (hl : ∀ y ∈ ws, y.length ≤ 65536) (hm : MaxAt w) (hs : c.small 4096) (hR : RdAt base x w c) :
    Calls Tryd.prog 62 #[.pointer (some ⟨x, 0, none⟩), .slice A ws.length cap] w fun e w' => LineEnd (RdAt base x) base (nodeF k c ws) w w' e := by
  by_cases hbad : ws.length < leastF k ∨ mostF k < ws.length
  · exact nodeF_any ws k hk hk1 c w base x cap A hx hn0 hbad hR
  have hk4 : k ≤ 4 := hk ▸ kindF_le _
  obtain ⟨b, off, rfl, hb, hc⟩ := words_at hx hn0
  have hc0 := hc 0 hn0
  have hcase : (ws.length = 2 ∧ k = 1) ∨ (ws.length = 3 ∧ 2 ≤ k ∧ k ≤ 3) ∨ (ws.length = 4 ∧ 2 ≤ k ∧ k ≤ 3) ∨ (ws.length = 5 ∧ k = 4) := by
    unfold leastF mostF at hbad
    rcases (by omega : k = 1 ∨ k = 2 ∨ k = 3 ∨ k = 4) with rfl | rfl | rfl | rfl <;> simp at hbad <;> omega
  rcases hcase with ⟨h1, rfl⟩ | ⟨h1, h2, h3⟩ | ⟨h1, h2, h3⟩ | ⟨h1, rfl⟩
  · obtain ⟨y0, y1, rfl⟩ := two_words h1
    exact node2_any y0 y1 hk c w base x b off cap hb hc0 (hc 1 (by simp)) (hl _ (by simp)) (hl _ (by simp)) hm hs hR
  · obtain ⟨y0, y1, y2, rfl⟩ := three_words h1
    exact node3_any y0 y1 y2 k h2 h3 hk c w base x b off cap hb hc0 (hc 1 (by simp)) (hc 2 (by simp)) (hl _ (by simp)) (hl _ (by simp)) (hl _ (by simp)) hm hs hR
  · obtain ⟨y0, y1, y2, y3, rfl⟩ := four_words h1
    exact node4_any y0 y1 y2 y3 k h2 h3 hk c w base x b off cap hb hc0 (hc 1 (by simp)) (hc 2 (by simp)) (hc 3 (by simp)) (hl _ (by simp)) (hl _ (by simp)) (hl _ (by simp)) (hl _ (by simp)) hm hs hR
  · obtain ⟨y0, y1, y2, y3, y4, rfl⟩ := five_words h1
    exact node5_any y0 y1 y2 y3 y4 hk c w base x b off cap hb hc0 (hc 1 (by simp)) (hc 2 (by simp)) (hc 3 (by simp)) (hc 4 (by simp)) (hl _ (by simp)) (hl _ (by simp)) (hl _ (by simp)) (hl _ (by simp)) (hl _ (by simp)) hm hs hR

set_option maxRecDepth 20000 in
set_option maxHeartbeats 8000000 in
theorem line_any (ws : List (List UInt8)) (c : Cfg) (w : World) (base x cap : Nat) (A : Option Addr) (hx : IsR strv w base A ws.length ws) (hn0 : 0 < ws.length) (hcap : ws.length ≤ cap) (hcm : cap ≤ maxLen) (hl : ∀ y ∈ ws, y.length ≤ 65536) (hm : MaxAt w) (hs : c.small 4096) (hR : RdAt base x w c) :
    Calls Tryd.prog 34 #[.pointer (some ⟨x, 0, none⟩), .slice A ws.length cap] w fun e w' => LineEnd (RdAt base x) base (lineF c ws) w w' e := by
  obtain ⟨r, hr⟩ : ∃ r, lineF c ws = r := ⟨_, rfl⟩
  rw [hr]
  obtain ⟨b, off, rfl, hb, hc⟩ := words_at hx hn0
  have c0 := hc 0 hn0
  rw [Nat.add_zero] at c0
  have qn := fun k hk hk1 => node_any ws k hk hk1 c w base x cap _ hx hn0 hl hm hs hR
  have qf := factor_any ws c w base x cap _ hx hl hR
  have qd := domain_any ws c w base x cap _ hx hR
  have qs := self_any ws c w base x cap _ hx hl hm hR
  have qv := vip_any ws c w base x cap _ hx hcap hcm hl hm hs hR
  have qw := view_any ws c w base x cap _ hx hl hm hs hR
  obtain ⟨n, hn⟩ : ∃ n, ws.length = n := ⟨_, rfl⟩
  rw [hn] at qn qf qd qs qv qw hn0 ⊢
  unfold lineF at hr
  obtain ⟨y, hy⟩ : ∃ y, wd ws 0 = y := ⟨_, rfl⟩
  rw [hy] at hr c0 qn
  have hn1 : (0 : Int) < (n : Int) := by omega
  have t0 := eqw y [102, 97, 99, 116, 111, 114]
  have t1 := eqw y [100, 111, 109, 97, 105, 110]
  have t2 := eqw y [115, 101, 108, 102]
  have t3 := eqw y [118, 105, 112]
  have t4 := eqw y [118, 105, 101, 119]
  have t5 := eqw y [108, 101, 118, 101, 108]
  have t6 := eqw y [122, 111, 110, 101]
  have t7 := eqw y [114, 97, 99, 107]
  have t8 := eqw y [104, 111, 115, 116]
  clear hx hc hn hl hm hs hR hy hcap hcm
  by_cases h0 : y = wFactor
  · rw [decide_eq_true (show y = [102, 97, 99, 116, 111, 114] from h0)] at t0
    rw [decide_eq_false (show ¬ y = [100, 111, 109, 97, 105, 110] from fun e => by rw [show y = [102, 97, 99, 116, 111, 114] from h0] at e; revert e; decide)] at t1
    rw [decide_eq_false (show ¬ y = [115, 101, 108, 102] from fun e => by rw [show y = [102, 97, 99, 116, 111, 114] from h0] at e; revert e; decide)] at t2
    rw [decide_eq_false (show ¬ y = [118, 105, 112] from fun e => by rw [show y = [102, 97, 99, 116, 111, 114] from h0] at e; revert e; decide)] at t3
    rw [decide_eq_false (show ¬ y = [118, 105, 101, 119] from fun e => by rw [show y = [102, 97, 99, 116, 111, 114] from h0] at e; revert e; decide)] at t4
    rw [decide_eq_false (show ¬ y = [108, 101, 118, 101, 108] from fun e => by rw [show y = [102, 97, 99, 116, 111, 114] from h0] at e; revert e; decide)] at t5
    rw [decide_eq_false (show ¬ y = [122, 111, 110, 101] from fun e => by rw [show y = [102, 97, 99, 116, 111, 114] from h0] at e; revert e; decide)] at t6
    rw [decide_eq_false (show ¬ y = [114, 97, 99, 107] from fun e => by rw [show y = [102, 97, 99, 116, 111, 114] from h0] at e; revert e; decide)] at t7
    rw [decide_eq_false (show ¬ y = [104, 111, 115, 116] from fun e => by rw [show y = [102, 97, 99, 116, 111, 114] from h0] at e; revert e; decide)] at t8
    rw [if_pos h0] at hr
    clear h0
    replace hr := hide hr
    replace qn := hide qn
    replace qf := hide qf
    replace qd := hide qd
    replace qs := hide qs
    replace qv := hide qv
    replace qw := hide qw
    go_enter Tryd.func34, Tryd.ntmps34
    go_wp2_with fail
    refine (qf.out).mono ?_
    rintro e w1 (⟨m, hr1, h0, rfl, hb1⟩ | ⟨c1, hr1, rfl, hP, hb1⟩)
    · replace hb1 := hide hb1
      replace hr1 := hide hr1
      go_wp2_with fail
      go_ret
      exact .inl ⟨m, hr.out.symm.trans hr1.out, h0, rfl, hb1.out⟩
    · replace hb1 := hide hb1
      replace hr1 := hide hr1
      replace hP := hide hP
      go_wp2_with fail
      go_ret
      exact .inr ⟨c1, hr.out.symm.trans hr1.out, rfl, hP.out, hb1.out⟩
  rw [decide_eq_false (show ¬ y = [102, 97, 99, 116, 111, 114] from h0)] at t0
  rw [if_neg h0] at hr
  by_cases h1 : y = wDomain
  · rw [decide_eq_true (show y = [100, 111, 109, 97, 105, 110] from h1)] at t1
    rw [decide_eq_false (show ¬ y = [115, 101, 108, 102] from fun e => by rw [show y = [100, 111, 109, 97, 105, 110] from h1] at e; revert e; decide)] at t2
    rw [decide_eq_false (show ¬ y = [118, 105, 112] from fun e => by rw [show y = [100, 111, 109, 97, 105, 110] from h1] at e; revert e; decide)] at t3
    rw [decide_eq_false (show ¬ y = [118, 105, 101, 119] from fun e => by rw [show y = [100, 111, 109, 97, 105, 110] from h1] at e; revert e; decide)] at t4
    rw [decide_eq_false (show ¬ y = [108, 101, 118, 101, 108] from fun e => by rw [show y = [100, 111, 109, 97, 105, 110] from h1] at e; revert e; decide)] at t5
    rw [decide_eq_false (show ¬ y = [122, 111, 110, 101] from fun e => by rw [show y = [100, 111, 109, 97, 105, 110] from h1] at e; revert e; decide)] at t6
    rw [decide_eq_false (show ¬ y = [114, 97, 99, 107] from fun e => by rw [show y = [100, 111, 109, 97, 105, 110] from h1] at e; revert e; decide)] at t7
    rw [decide_eq_false (show ¬ y = [104, 111, 115, 116] from fun e => by rw [show y = [100, 111, 109, 97, 105, 110] from h1] at e; revert e; decide)] at t8
    rw [if_pos h1] at hr
    clear h1
    replace hr := hide hr
    replace qn := hide qn
    replace qf := hide qf
    replace qd := hide qd
    replace qs := hide qs
    replace qv := hide qv
    replace qw := hide qw
    go_enter Tryd.func34, Tryd.ntmps34
    go_wp2_with fail
    refine (qd.out).mono ?_
    rintro e w1 (⟨m, hr1, h0, rfl, hb1⟩ | ⟨c1, hr1, rfl, hP, hb1⟩)
    · replace hb1 := hide hb1
      replace hr1 := hide hr1
      go_wp2_with fail
      go_ret
      exact .inl ⟨m, hr.out.symm.trans hr1.out, h0, rfl, hb1.out⟩
    · replace hb1 := hide hb1
      replace hr1 := hide hr1
      replace hP := hide hP
      go_wp2_with fail
      go_ret
      exact .inr ⟨c1, hr.out.symm.trans hr1.out, rfl, hP.out, hb1.out⟩
  rw [decide_eq_false (show ¬ y = [100, 111, 109, 97, 105, 110] from h1)] at t1
  rw [if_neg h1] at hr
  by_cases h2 : y = wSelf
  · rw [decide_eq_true (show y = [115, 101, 108, 102] from h2)] at t2
    rw [decide_eq_false (show ¬ y = [118, 105, 112] from fun e => by rw [show y = [115, 101, 108, 102] from h2] at e; revert e; decide)] at t3
    rw [decide_eq_false (show ¬ y = [118, 105, 101, 119] from fun e => by rw [show y = [115, 101, 108, 102] from h2] at e; revert e; decide)] at t4
    rw [decide_eq_false (show ¬ y = [108, 101, 118, 101, 108] from fun e => by rw [show y = [115, 101, 108, 102] from h2] at e; revert e; decide)] at t5
    rw [decide_eq_false (show ¬ y = [122, 111, 110, 101] from fun e => by rw [show y = [115, 101, 108, 102] from h2] at e; revert e; decide)] at t6
    rw [decide_eq_false (show ¬ y = [114, 97, 99, 107] from fun e => by rw [show y = [115, 101, 108, 102] from h2] at e; revert e; decide)] at t7
    rw [decide_eq_false (show ¬ y = [104, 111, 115, 116] from fun e => by rw [show y = [115, 101, 108, 102] from h2] at e; revert e; decide)] at t8
    rw [if_pos h2] at hr
    clear h2
    replace hr := hide hr
    replace qn := hide qn
    replace qf := hide qf
    replace qd := hide qd
    replace qs := hide qs
    replace qv := hide qv
    replace qw := hide qw
    go_enter Tryd.func34, Tryd.ntmps34
    go_wp2_with fail
    refine (qs.out).mono ?_
    rintro e w1 (⟨m, hr1, h0, rfl, hb1⟩ | ⟨c1, hr1, rfl, hP, hb1⟩)
    · replace hb1 := hide hb1
      replace hr1 := hide hr1
      go_wp2_with fail
      go_ret
      exact .inl ⟨m, hr.out.symm.trans hr1.out, h0, rfl, hb1.out⟩
    · replace hb1 := hide hb1
      replace hr1 := hide hr1
      replace hP := hide hP
      go_wp2_with fail
      go_ret
      exact .inr ⟨c1, hr.out.symm.trans hr1.out, rfl, hP.out, hb1.out⟩
  rw [decide_eq_false (show ¬ y = [115, 101, 108, 102] from h2)] at t2
  rw [if_neg h2] at hr
  by_cases h3 : y = wVip
  · rw [decide_eq_true (show y = [118, 105, 112] from h3)] at t3
    rw [decide_eq_false (show ¬ y = [118, 105, 101, 119] from fun e => by rw [show y = [118, 105, 112] from h3] at e; revert e; decide)] at t4
    rw [decide_eq_false (show ¬ y = [108, 101, 118, 101, 108] from fun e => by rw [show y = [118, 105, 112] from h3] at e; revert e; decide)] at t5
    rw [decide_eq_false (show ¬ y = [122, 111, 110, 101] from fun e => by rw [show y = [118, 105, 112] from h3] at e; revert e; decide)] at t6
    rw [decide_eq_false (show ¬ y = [114, 97, 99, 107] from fun e => by rw [show y = [118, 105, 112] from h3] at e; revert e; decide)] at t7
    rw [decide_eq_false (show ¬ y = [104, 111, 115, 116] from fun e => by rw [show y = [118, 105, 112] from h3] at e; revert e; decide)] at t8
    rw [if_pos h3] at hr
    clear h3
    replace hr := hide hr
    replace qn := hide qn
    replace qf := hide qf
    replace qd := hide qd
    replace qs := hide qs
    replace qv := hide qv
    replace qw := hide qw
    go_enter Tryd.func34, Tryd.ntmps34
    go_wp2_with fail
    refine (qv.out).mono ?_
    rintro e w1 (⟨m, hr1, h0, rfl, hb1⟩ | ⟨c1, hr1, rfl, hP, hb1⟩)
    · replace hb1 := hide hb1
      replace hr1 := hide hr1
      go_wp2_with fail
      go_ret
      exact .inl ⟨m, hr.out.symm.trans hr1.out, h0, rfl, hb1.out⟩
    · replace hb1 := hide hb1
      replace hr1 := hide hr1
      replace hP := hide hP
      go_wp2_with fail
      go_ret
      exact .inr ⟨c1, hr.out.symm.trans hr1.out, rfl, hP.out, hb1.out⟩
  rw [decide_eq_false (show ¬ y = [118, 105, 112] from h3)] at t3
  rw [if_neg h3] at hr
  by_cases h4 : y = wView
  · rw [decide_eq_true (show y = [118, 105, 101, 119] from h4)] at t4
    rw [decide_eq_false (show ¬ y = [108, 101, 118, 101, 108] from fun e => by rw [show y = [118, 105, 101, 119] from h4] at e; revert e; decide)] at t5
    rw [decide_eq_false (show ¬ y = [122, 111, 110, 101] from fun e => by rw [show y = [118, 105, 101, 119] from h4] at e; revert e; decide)] at t6
    rw [decide_eq_false (show ¬ y = [114, 97, 99, 107] from fun e => by rw [show y = [118, 105, 101, 119] from h4] at e; revert e; decide)] at t7
    rw [decide_eq_false (show ¬ y = [104, 111, 115, 116] from fun e => by rw [show y = [118, 105, 101, 119] from h4] at e; revert e; decide)] at t8
    rw [if_pos h4] at hr
    clear h4
    replace hr := hide hr
    replace qn := hide qn
    replace qf := hide qf
    replace qd := hide qd
    replace qs := hide qs
    replace qv := hide qv
    replace qw := hide qw
    go_enter Tryd.func34, Tryd.ntmps34
    go_wp2_with fail
    refine (qw.out).mono ?_
    rintro e w1 (⟨m, hr1, h0, rfl, hb1⟩ | ⟨c1, hr1, rfl, hP, hb1⟩)
    · replace hb1 := hide hb1
      replace hr1 := hide hr1
      go_wp2_with fail
      go_ret
      exact .inl ⟨m, hr.out.symm.trans hr1.out, h0, rfl, hb1.out⟩
    · replace hb1 := hide hb1
      replace hr1 := hide hr1
      replace hP := hide hP
      go_wp2_with fail
      go_ret
      exact .inr ⟨c1, hr.out.symm.trans hr1.out, rfl, hP.out, hb1.out⟩
  rw [decide_eq_false (show ¬ y = [118, 105, 101, 119] from h4)] at t4
  rw [if_neg h4] at hr
  by_cases h5 : y = wLevel
  · rw [decide_eq_true (show y = [108, 101, 118, 101, 108] from h5)] at t5
    rw [decide_eq_false (show ¬ y = [122, 111, 110, 101] from fun e => by rw [show y = [108, 101, 118, 101, 108] from h5] at e; revert e; decide)] at t6
    rw [decide_eq_false (show ¬ y = [114, 97, 99, 107] from fun e => by rw [show y = [108, 101, 118, 101, 108] from h5] at e; revert e; decide)] at t7
    rw [decide_eq_false (show ¬ y = [104, 111, 115, 116] from fun e => by rw [show y = [108, 101, 118, 101, 108] from h5] at e; revert e; decide)] at t8
    have hk : kindF y = 1 := by rw [h5]; decide
    rw [hk] at hr
    rw [if_pos (by decide)] at hr
    clear h5
    have q := qn 1 hk (by decide)
    clear qn
    have qn := q
    clear q hk
    replace hr := hide hr
    replace qn := hide qn
    replace qf := hide qf
    replace qd := hide qd
    replace qs := hide qs
    replace qv := hide qv
    replace qw := hide qw
    go_enter Tryd.func34, Tryd.ntmps34
    go_wp2_with fail
    refine (qn.out).mono ?_
    rintro e w1 (⟨m, hr1, h0, rfl, hb1⟩ | ⟨c1, hr1, rfl, hP, hb1⟩)
    · replace hb1 := hide hb1
      replace hr1 := hide hr1
      go_wp2_with fail
      go_ret
      exact .inl ⟨m, hr.out.symm.trans hr1.out, h0, rfl, hb1.out⟩
    · replace hb1 := hide hb1
      replace hr1 := hide hr1
      replace hP := hide hP
      go_wp2_with fail
      go_ret
      exact .inr ⟨c1, hr.out.symm.trans hr1.out, rfl, hP.out, hb1.out⟩
  rw [decide_eq_false (show ¬ y = [108, 101, 118, 101, 108] from h5)] at t5
  by_cases h6 : y = wZone
  · rw [decide_eq_true (show y = [122, 111, 110, 101] from h6)] at t6
    rw [decide_eq_false (show ¬ y = [114, 97, 99, 107] from fun e => by rw [show y = [122, 111, 110, 101] from h6] at e; revert e; decide)] at t7
    rw [decide_eq_false (show ¬ y = [104, 111, 115, 116] from fun e => by rw [show y = [122, 111, 110, 101] from h6] at e; revert e; decide)] at t8
    have hk : kindF y = 2 := by rw [h6]; decide
    rw [hk] at hr
    rw [if_pos (by decide)] at hr
    clear h6
    have q := qn 2 hk (by decide)
    clear qn
    have qn := q
    clear q hk
    replace hr := hide hr
    replace qn := hide qn
    replace qf := hide qf
    replace qd := hide qd
    replace qs := hide qs
    replace qv := hide qv
    replace qw := hide qw
    go_enter Tryd.func34, Tryd.ntmps34
    go_wp2_with fail
    refine (qn.out).mono ?_
    rintro e w1 (⟨m, hr1, h0, rfl, hb1⟩ | ⟨c1, hr1, rfl, hP, hb1⟩)
    · replace hb1 := hide hb1
      replace hr1 := hide hr1
      go_wp2_with fail
      go_ret
      exact .inl ⟨m, hr.out.symm.trans hr1.out, h0, rfl, hb1.out⟩
    · replace hb1 := hide hb1
      replace hr1 := hide hr1
      replace hP := hide hP
      go_wp2_with fail
      go_ret
      exact .inr ⟨c1, hr.out.symm.trans hr1.out, rfl, hP.out, hb1.out⟩
  rw [decide_eq_false (show ¬ y = [122, 111, 110, 101] from h6)] at t6
  by_cases h7 : y = wRack
  · rw [decide_eq_true (show y = [114, 97, 99, 107] from h7)] at t7
    rw [decide_eq_false (show ¬ y = [104, 111, 115, 116] from fun e => by rw [show y = [114, 97, 99, 107] from h7] at e; revert e; decide)] at t8
    have hk : kindF y = 3 := by rw [h7]; decide
    rw [hk] at hr
    rw [if_pos (by decide)] at hr
    clear h7
    have q := qn 3 hk (by decide)
    clear qn
    have qn := q
    clear q hk
    replace hr := hide hr
    replace qn := hide qn
    replace qf := hide qf
    replace qd := hide qd
    replace qs := hide qs
    replace qv := hide qv
    replace qw := hide qw
    go_enter Tryd.func34, Tryd.ntmps34
    go_wp2_with fail
    refine (qn.out).mono ?_
    rintro e w1 (⟨m, hr1, h0, rfl, hb1⟩ | ⟨c1, hr1, rfl, hP, hb1⟩)
    · replace hb1 := hide hb1
      replace hr1 := hide hr1
      go_wp2_with fail
      go_ret
      exact .inl ⟨m, hr.out.symm.trans hr1.out, h0, rfl, hb1.out⟩
    · replace hb1 := hide hb1
      replace hr1 := hide hr1
      replace hP := hide hP
      go_wp2_with fail
      go_ret
      exact .inr ⟨c1, hr.out.symm.trans hr1.out, rfl, hP.out, hb1.out⟩
  rw [decide_eq_false (show ¬ y = [114, 97, 99, 107] from h7)] at t7
  by_cases h8 : y = wHost
  · rw [decide_eq_true (show y = [104, 111, 115, 116] from h8)] at t8
    have hk : kindF y = 4 := by rw [h8]; decide
    rw [hk] at hr
    rw [if_pos (by decide)] at hr
    clear h8
    have q := qn 4 hk (by decide)
    clear qn
    have qn := q
    clear q hk
    replace hr := hide hr
    replace qn := hide qn
    replace qf := hide qf
    replace qd := hide qd
    replace qs := hide qs
    replace qv := hide qv
    replace qw := hide qw
    go_enter Tryd.func34, Tryd.ntmps34
    go_wp2_with fail
    refine (qn.out).mono ?_
    rintro e w1 (⟨m, hr1, h0, rfl, hb1⟩ | ⟨c1, hr1, rfl, hP, hb1⟩)
    · replace hb1 := hide hb1
      replace hr1 := hide hr1
      go_wp2_with fail
      go_ret
      exact .inl ⟨m, hr.out.symm.trans hr1.out, h0, rfl, hb1.out⟩
    · replace hb1 := hide hb1
      replace hr1 := hide hr1
      replace hP := hide hP
      go_wp2_with fail
      go_ret
      exact .inr ⟨c1, hr.out.symm.trans hr1.out, rfl, hP.out, hb1.out⟩
  rw [decide_eq_false (show ¬ y = [104, 111, 115, 116] from h8)] at t8
  have hk : kindF y = 0 := by unfold kindF; rw [if_neg h5, if_neg h6, if_neg h7, if_neg h8]
  rw [hk, if_neg (by decide)] at hr
  have hbl : Below w.heap.size w w := Below.refl _ _
  clear h0 h1 h2 h3 h4 h5 h6 h7 h8 hk
  replace hr := hide hr
  replace qn := hide qn
  replace qf := hide qf
  replace qd := hide qd
  replace qs := hide qs
  replace qv := hide qv
  replace qw := hide qw
  replace hbl := hide hbl
  go_enter Tryd.func34, Tryd.ntmps34
  go_wp2_with fail
  go_ret
  exact lineEnd_err hr.out.symm (by decide) hbl.out
end Conf18
end Go.Proofs.YtcpokkkdmenmgaaDoor
