/- conf: node: a line of 2 words. Conditions: words of at most 2^16 bytes. -/
import Derived.Test.YtcpokkkdmenmgaaDoorQConfRemarks13
namespace Go.Proofs.YtcpokkkdmenmgaaDoor
open Go.RowKit Go.ChangeShapes Go.WideShapes Go.ChangeAt Go.Deep
namespace Conf18
open Addr05
set_option maxRecDepth 20000 in
set_option maxHeartbeats 16000000 in
theorem node2_any (y0 y1 : List UInt8) (hk : kindF y0 = 1) (c : Cfg) (w : World) (base x b off cap : Nat) (hb : b < base) (c0 : w.cell? ⟨b, off, none⟩ = some (.string (str y0))) (c1 : w.cell? ⟨b, off + 1, none⟩ = some (.string (str y1))) (_l0 : y0.length ≤ 65536) (l1 : y1.length ≤ 65536) (hm : MaxAt w) (hs : c.small 4096) (hR : RdAt base x w c) :
    Calls Tryd.prog 62 #[.pointer (some ⟨x, 0, none⟩), .slice (some ⟨b, off, none⟩) 2 cap] w fun e w' => LineEnd (RdAt base x) base (nodeF 1 c [y0, y1]) w w' e := by
  obtain ⟨r, hr⟩ : ∃ r, nodeF 1 c [y0, y1] = r := ⟨_, rfl⟩
  rw [hr]
  have hL : leastF 1 = 2 := rfl
  have hM : mostF 1 = 2 := rfl
  have i2 := idx_most 1 (by omega) (by omega)
  have i3 := idx_least 1 (by omega) (by omega)
  rw [hM] at i2
  rw [hL] at i3
  unfold nodeF at hr
  rw [hL, hM, if_neg (by simp only [List.length_cons, List.length_nil]; omega)] at hr
  rw [show aboveF c [y0, y1] = some (-1) from rfl, show weightF 1 [y0, y1] = some 0 from rfl, show nadrF [y0, y1] = some zA from rfl] at hr
  rw [show wd [y0, y1] 1 = y1 from rfl] at hr
  have qk := kind_any y0 w
  rw [hk] at qk
  change Calls Tryd.prog 81 #[.string (str y0)] w fun e w' => e = .returned (.int .i64 1) ∧ w' = w at qk
  change ∀ w, (Instr.index 152 (.agg #[.int .i64 0, .int .i64 2, .int .i64 4, .int .i64 4, .int .i64 5]) (.int .i64 1)).run Tryd.prog w = .ok (.int .i64 2) w at i2
  change ∀ w, (Instr.index 152 (.agg #[.int .i64 0, .int .i64 2, .int .i64 3, .int .i64 3, .int .i64 5]) (.int .i64 1)).run Tryd.prog w = .ok (.int .i64 2) w at i3
  obtain ⟨mb, ma, nv, vv, wv, h⟩ := hR
  have hbx := h.cfg.hx
  have hxs := h.xlt
  have hms := h.mlt
  have hbma := h.ha
  obtain ⟨z, hz⟩ : ∃ z, w.heap.size = z := ⟨_, rfl⟩
  have hbz : base ≤ z := by omega
  have hmaz : ma < z := by omega
  obtain ⟨o1, ho1⟩ : ∃ o, atN c.nodes y1 = o := ⟨_, rfl⟩
  rw [ho1] at hr
  clear hk hL hM
  replace h := hide h
  replace hr := hide hr
  replace qk := hide qk
  replace ho1 := hide ho1
  replace hm := hide hm
  replace hms := hide hms
  go_enter Tryd.func62, Tryd.ntmps62
  go_upto_region 1 with fail
  apply wp_region_lit
  iterate 3 (refine wpList_plain rfl fun K hK => ?_; go_simp; refine hK _ _ ?_; clear hK K)
  refine wpList_plain rfl fun K hK => ?_
  go_simp
  refine (qk.out).mono ?_
  rintro e w ⟨rfl, rfl⟩
  go_simp
  refine hK _ _ ?_
  clear hK K
  iterate 1 (refine wpList_plain rfl fun K hK => ?_; go_simp; refine hK _ _ ?_; clear hK K)
  refine wpl_new rfl rfl 72 _ (alloc_nd _ rfl) 5 rfl (.tmp 20) rfl _ (fun _ => rfl) (fun _ => rfl) rfl (by kernel_rfl) (nd_one ⟨#[]⟩ 1 (-1) 0 false 0 0) ?_
  intro w1 hg1 hb1 hz1
  rw [hz] at hg1 hb1 hz1
  refine wpList_nil ?_
  go_simp
  clear qk
  have c1b := (hb1.cell (p := ⟨b, off + 1, none⟩) (by dsimp only; omega)).trans c1
  obtain ⟨w2, hw2, hb2, hg2, hz2⟩ := loc_set (cs' := #[.string (str y1), .int .i64 1, .int .i64 (-1), .int .i64 0, .bool false, .int .u64 0, .int .u64 0]) hb1 hg1 0 (.string (str y1)) rfl
  have hca := blk_cell hg1
  have hfa := blk_free hg1
  replace hz2 : z < w2.heap.size := by omega
  clear hz1
  replace hb1 := hide hb1
  replace hg1 := hide hg1
  replace hb2 := hide hb2
  replace hg2 := hide hg2
  go_upto_region 22 with fail
  clear hca hfa hw2 hb1 hg1
  replace hb2 := hb2.out
  replace hg2 := hg2.out
  refine wp_region_X (Below (z + 1)) (by as_aux_lemma => kernel_rfl) ?_
  intro w3 hbd
  have hb3 := hb2.trans (hbd.mono (by omega))
  have hg3 := blk_below hbd (by omega) hg2
  have hz3 : z < w3.heap.size := Nat.lt_of_lt_of_le (by omega) hbd.size
  have hR := fun l : RelW (Below (z + 1)) w3 => h.out.on (by rw [hz]; exact hb3.trans (l.hk.mono (by omega)))
  have lx := fun l : RelW (Below (z + 1)) w3 => (show l.w.cell? ⟨x, 12, none⟩ = some (.map (some ma)) from blk_cell (hR l).cfg.blk 12)
  have lk := fun l : RelW (Below (z + 1)) w3 => (hR l).names.look y1 (Nat.le_trans l1 (by decide))
  rw [ho1.out] at lk
  clear hR hbd
  clear hb2 hg2 hz2
  replace hb3 := hide hb3
  replace hg3 := hide hg3
  have lc := fun l : RelW (Below (z + 1)) w3 => (l.hk.cell (p := ⟨z, 0, none⟩) (by dsimp only; omega)).trans (show w3.cell? ⟨z, 0, none⟩ = some (.string (str y1)) from blk_cell hg3.out 0)
  rcases o1 with _ | j1
  · change ∀ l : RelW (Below (z + 1)) w3, (Instr.lookup 43 (.map (some ma)) (.string (str y1)) true).run Tryd.prog l.w = .ok (.tuple #[.int .i64 0, .bool false]) l.w at lk
    refine wpX_seg (Below (z + 1)) 0 12 (fuel := 0) (by as_aux_lemma => kernel_rfl) (fun d _ _ _ _ h => by cases d <;> exact h) (by as_aux_lemma => kernel_rfl) (by as_aux_lemma => kernel_rfl) ?_
    simp only [List.drop_zero, List.take_succ_cons, List.take_zero]
    iterate 12 (refine wpQX_step (fun K hK => ?_); go_simp; refine hK _ ?_; clear hK K)
    refine wpQF_nil ?_
    refine wpF_done (by as_aux_lemma => kernel_rfl) ?_ 0
    clear lk lx lc
    go_upto_region 25 with fail
    refine wp_region_Y [12] (Below (z + 1)) (by as_aux_lemma => kernel_rfl) ?_
    intro w4 hbd
    have hb4 := hb3.out.trans (hbd.mono (by omega))
    have hg4 := blk_below hbd (by omega) hg3.out
    have hz4 : z < w4.heap.size := Nat.lt_of_lt_of_le (by omega) hbd.size
    have hR := fun l : RelW (Below (z + 1)) w4 => h.out.on (by rw [hz]; exact hb4.trans (l.hk.mono (by omega)))
    have hR0 := h.out.on (by rw [hz]; exact hb4)
    have lx := fun l : RelW (Below (z + 1)) w4 => (show l.w.cell? ⟨x, 12, none⟩ = some (.map (some ma)) from blk_cell (hR l).cfg.blk 12)
    have lc := fun l : RelW (Below (z + 1)) w4 => (l.hk.cell (p := ⟨z, 0, none⟩) (by dsimp only; omega)).trans (show w4.cell? ⟨z, 0, none⟩ = some (.string (str y1)) from blk_cell hg4 0)
    obtain ⟨An, cn, hvn, -, -, -⟩ := own_isv hR0.cfg.nodes
    subst hvn
    have ln := fun l : RelW (Below (z + 1)) w4 => (show l.w.cell? ⟨x, 0, none⟩ = some (.slice An c.nodes.length cn) from blk_cell (hR l).cfg.blk 0)
    clear hR hbd
    clear hb3 hg3 hz3
    replace hb4 := hide hb4
    replace hg4 := hide hg4
    replace hR0 := hide hR0
    refine wpY_seg [12] (Below (z + 1)) 0 12 (fuel := 1) (by as_aux_lemma => kernel_rfl) (fun d _ _ _ _ h => by cases d <;> exact h) (by as_aux_lemma => kernel_rfl) (by as_aux_lemma => kernel_rfl) (by as_aux_lemma => kernel_rfl) ?_
    simp only [List.drop_zero, List.take_succ_cons, List.take_zero]
    iterate 12 (refine wpQX_step (fun K hK => ?_); go_simp; refine hK _ ?_; clear hK K)
    refine wpQF_nil ?_
    clear lx lc ln
    refine wpW_step 12 rfl (by as_aux_lemma => kernel_rfl) (fun K hK => ?_)
    rw [if_pos (by unfold Region.wanted; rfl)]
    refine wp_putI (.tmp 113) (.tmp 115) (.tmp 121) rfl ma c.nodes.length (atN c.nodes) y1 c.nodes.length (Nat.le_trans l1 (by decide)) (by have := hs.1; omega) (by have := hs.1; omega) rfl rfl rfl hR0.out.names fun w5 hM hgm v0 => hK _ _ (relY_wr (by as_aux_lemma => kernel_rfl)) ?_
    clear hK K
    have hN := hR0.out.named hgm hM
    have hbb := (hb4.out.mono hbz).trans (below_of_grown (base := base) hgm (by omega) (fun k hk => by cases hk; exact hbma))
    have hg5 := grown_other hgm (by omega) (by omega) hg4.out
    have hz5 : z < w5.heap.size := lt_of_blk hg5
    clear hM hgm hR0 hb4 hg4 hz4
    replace hN := hide hN
    replace hbb := hide hbb
    replace hg5 := hide hg5
    refine wpW_done (by as_aux_lemma => kernel_rfl) ?_ _
    go_upto_region 26 with fail
    have hrx := row_not_x hN.out.cfg.nodes hN.out.cfg.blk hN.out.cfg.hT.1
    have hrz : (Value.slice An c.nodes.length cn).ownBlock = some z → False := fun e => by have := (World.ownsRow.lt h.out.cfg.nodes _ e).2; omega
    refine wp_region_Y [12] (KeptS w5.heap.size (fun k => (Value.slice An c.nodes.length cn).ownBlock = some k)) (by as_aux_lemma => kernel_rfl) ?_
    intro w6 hbd
    have hN6 := hN.out.on hbd
    have hge := blk_below hbd hz5 hg5.out
    have hbe := hbb.out.trans (hbd.mono (by omega))
    have ze := hbd.size
    have lx := fun l : RelW (KeptS w5.heap.size (fun k => (Value.slice An c.nodes.length cn).ownBlock = some k)) w6 => (show l.w.cell? ⟨x, 0, none⟩ = some (Value.slice An c.nodes.length cn) from blk_cell ((l.hk.block x (lt_of_blk hN.out.cfg.blk) (by rcases hrx with e | e <;> (intro e2; first | (rw [e] at e2; cases e2) | exact e e2))).trans hN6.cfg.blk) 0)
    have lz := fun l : RelW (KeptS w5.heap.size (fun k => (Value.slice An c.nodes.length cn).ownBlock = some k)) w6 => blk_cell ((l.hk.block z hz5 hrz).trans hge)
    clear hN hg5 hbb hbd hrx hrz
    replace hN6 := hide hN6
    replace hbe := hide hbe
    refine wpY_seg [12] (KeptS w5.heap.size (fun k => (Value.slice An c.nodes.length cn).ownBlock = some k)) 0 7 (fuel := 6) (by as_aux_lemma => kernel_rfl) (fun d _ _ _ _ h => by cases d <;> exact h) (by as_aux_lemma => kernel_rfl) (by as_aux_lemma => kernel_rfl) (by as_aux_lemma => kernel_rfl) ?_
    simp only [List.drop_zero, List.take_succ_cons, List.take_zero]
    iterate 7 (refine wpQX_step (fun K hK => ?_); go_simp; refine hK _ ?_; clear hK K)
    refine wpQF_nil ?_
    clear lx lz hge
    obtain ⟨ND, hND⟩ : ∃ ND : Nd, ND = ⟨y1, 1, (-1), 0, zA⟩ := ⟨_, rfl⟩
    have hC : ndC ND = [.string (str y1), .int .i64 1, .int .i64 (-1), .int .i64 0, .bool false, .int .u64 0, .int .u64 0] := by rw [hND]; rfl
    refine wpW_step 7 rfl (by as_aux_lemma => kernel_rfl) (fun K hK => ?_)
    go_simp
    refine hK _ _ (relY_of (keptS_of_below ((Below.refl _ _).alloc (Nat.le_refl _) _) ze)) ?_
    clear hK K
    obtain ⟨wt, hwt⟩ : ∃ wt, w6.alloc (.cells (ndC ND).toArray 72) = wt := ⟨_, rfl⟩
    have hbt : Below w6.heap.size w6 wt := hwt ▸ (Below.refl _ _).alloc (Nat.le_refl _) _
    have hnt : wt.heap[w6.heap.size]? = some (.cells (ndC ND).toArray 72 (0, 0)) := hwt ▸ blk_new _ _ _
    rw [hC] at hwt
    change wpW _ _ _ _ _ _ _ _ (w6.alloc (.cells ([.string (str y1), .int .i64 1, .int .i64 (-1), .int .i64 0, .bool false, .int .u64 0, .int .u64 0]).toArray 72))
    rw [hwt]
    have hNt := hN6.out.on hbt
    have hbf := hbe.out.trans (hbt.mono (by omega))
    have zt := hbt.size
    clear hwt hbt hN6 hbe
    refine wpW_step 8 rfl (by as_aux_lemma => kernel_rfl) (fun K hK => ?_)
    rw [if_pos (by unfold Region.wanted; rfl)]
    refine wp_app_c (T := 72) Tryd.underlying22 info_nd rfl (by decide) (by decide) (.tmp 127) (.tmp 129) rfl base _ c.nodes.length _ (ndC ND) w6.heap.size rfl rfl hNt.cfg.nodes hnt rfl (ndC_one _) (by omega) (by have := hs.1; omega) fun v11 w11 h1 h2 => hK _ _ (relY_of ⟨h2.grown.os, h2.grown.tape, h2.grown.output, h2.grown.size, fun k hk hne => h2.grown.block k (by omega) (fun e => hne e.symm)⟩) ?_
    clear hK K hnt
    obtain ⟨A11, c11, hv11, -, -, -⟩ := own_isv h1
    subst hv11
    have hNt2 : RdN wt base x mb ma c ND.name (.slice An c.nodes.length cn) vv wv := by rw [hND]; exact hNt
    obtain ⟨hx11, hL12⟩ := hNt2.pushN (by rw [hND]; exact ho1.out) h1 h2
    have hB11 := hbf.trans (below_of_grown h2.grown (by omega) (fun k hk => (World.ownsRow.lt hNt.cfg.nodes _ hk).1))
    have hB12 : Below base w (w11.setCell ⟨x, 0, none⟩ (.slice A11 (c.nodes.length + 1) c11)) := hB11.setCell (p := ⟨x, 0, none⟩) hbx _
    have hc : w11.cell? ⟨x, 0, none⟩ = some (Value.slice An c.nodes.length cn) := blk_cell hx11 0
    have hf := blk_free hx11 0
    clear h1 h2 hNt hNt2 hbf hB11 hx11
    obtain ⟨w12, hw12⟩ : ∃ w12, w11.setCell ⟨x, 0, none⟩ (.slice A11 (c.nodes.length + 1) c11) = w12 := ⟨_, rfl⟩
    rw [hw12] at hL12 hB12
    replace hL12 := hide hL12
    replace hB12 := hide hB12
    replace hND := hide hND
    replace hC := hide hC
    refine wpW_step 9 rfl (by as_aux_lemma => kernel_rfl) (fun K hK => ?_)
    go_simp
    refine hK _ _ (relY_of (IsRel.refl _)) ?_
    clear hK K
    refine wpW_step 10 rfl (by as_aux_lemma => kernel_rfl) (fun K hK => ?_)
    go_simp
    refine hK _ _ (relY_of (IsRel.refl _)) ?_
    clear hK K
    refine wpW_step 11 rfl (by as_aux_lemma => kernel_rfl) (fun K hK => ?_)
    go_simp
    refine hK _ _ (relY_of (IsRel.refl _)) ?_
    clear hK K
    refine wpW_step 12 rfl (by as_aux_lemma => kernel_rfl) (fun K hK => ?_)
    go_simp
    refine hK _ _ (relY_wr (by as_aux_lemma => kernel_rfl)) ?_
    clear hK K hc hf hw12
    refine wpW_done (by as_aux_lemma => kernel_rfl) ?_ _
    go_wp2_with fail
    refine bodyPost_ret (v := .int .i64 0) (by simp [results, Tryd.results62, go_sem]) rfl ?_
    have hL := hL12.out
    rw [hND.out] at hL
    exact lineEnd_ok hr.out.symm ⟨mb, ma, _, vv, wv, hL⟩ hB12.out
  change ∀ l : RelW (Below (z + 1)) w3, (Instr.lookup 43 (.map (some ma)) (.string (str y1)) true).run Tryd.prog l.w = .ok (.tuple #[.int .i64 (j1 : Int), .bool true]) l.w at lk
  refine wpX_seg (Below (z + 1)) 0 12 (fuel := 0) (by as_aux_lemma => kernel_rfl) (fun d _ _ _ _ h => by cases d <;> exact h) (by as_aux_lemma => kernel_rfl) (by as_aux_lemma => kernel_rfl) ?_
  simp only [List.drop_zero, List.take_succ_cons, List.take_zero]
  iterate 12 (refine wpQX_step (fun K hK => ?_); go_simp; refine hK _ ?_; clear hK K)
  refine wpQF_nil ?_
  refine wpF_done (by as_aux_lemma => kernel_rfl) ?_ 0
  clear lk lx lc
  go_wp2_with fail
  refine bodyPost_ret (v := .int .i64 8) (by simp [results, Tryd.results62, go_sem]) rfl ?_
  exact lineEnd_err hr.out.symm (by decide) (by rw [hz]; exact hb3.out)
end Conf18
end Go.Proofs.YtcpokkkdmenmgaaDoor
/- conf: node: a line of 3 words. Conditions: words of at most 2^16 bytes. -/
namespace Go.Proofs.YtcpokkkdmenmgaaDoor
open Go.RowKit Go.ChangeShapes Go.WideShapes Go.ChangeAt Go.Deep
namespace Conf18
open Addr05
set_option maxRecDepth 20000 in
set_option maxHeartbeats 16000000 in
theorem node3_any (y0 y1 y2 : List UInt8) (k : Nat) (hk1 : 2 ≤ k) (hk2 : k ≤ 3) (hk : kindF y0 = k) (c : Cfg) (w : World) (base x b off cap : Nat) (hb : b < base) (c0 : w.cell? ⟨b, off, none⟩ = some (.string (str y0))) (c1 : w.cell? ⟨b, off + 1, none⟩ = some (.string (str y1))) (c2 : w.cell? ⟨b, off + 2, none⟩ = some (.string (str y2))) (_l0 : y0.length ≤ 65536) (l1 : y1.length ≤ 65536) (l2 : y2.length ≤ 65536) (hm : MaxAt w) (hs : c.small 4096) (hR : RdAt base x w c) :
    Calls Tryd.prog 62 #[.pointer (some ⟨x, 0, none⟩), .slice (some ⟨b, off, none⟩) 3 cap] w fun e w' => LineEnd (RdAt base x) base (nodeF k c [y0, y1, y2]) w w' e := by
  obtain ⟨r, hr⟩ : ∃ r, nodeF k c [y0, y1, y2] = r := ⟨_, rfl⟩
  rw [hr]
  have hL : leastF k = 3 := by unfold leastF; rw [if_neg (by omega), if_pos (by omega)]
  have hM : mostF k = 4 := by unfold mostF; rw [if_neg (by omega), if_pos (by omega)]
  have i2 := idx_most k (by omega) (by omega)
  have i3 := idx_least k (by omega) (by omega)
  rw [hM] at i2
  rw [hL] at i3
  unfold nodeF at hr
  rw [hL, hM, if_neg (by simp only [List.length_cons, List.length_nil]; omega)] at hr
  rw [show aboveF c [y0, y1, y2] = (atN c.nodes y2).map fun k => (k : Int) from rfl, show weightF k [y0, y1, y2] = some 0 from rfl, show nadrF [y0, y1, y2] = some zA from rfl] at hr
  rw [show wd [y0, y1, y2] 1 = y1 from rfl] at hr
  have qk := kind_any y0 w
  rw [hk] at qk
  change ∀ w, (Instr.index 152 (.agg #[.int .i64 0, .int .i64 2, .int .i64 4, .int .i64 4, .int .i64 5]) (.int .i64 (k : Int))).run Tryd.prog w = .ok (.int .i64 4) w at i2
  change ∀ w, (Instr.index 152 (.agg #[.int .i64 0, .int .i64 2, .int .i64 3, .int .i64 3, .int .i64 5]) (.int .i64 (k : Int))).run Tryd.prog w = .ok (.int .i64 3) w at i3
  obtain ⟨mb, ma, nv, vv, wv, h⟩ := hR
  have hbx := h.cfg.hx
  have hxs := h.xlt
  have hms := h.mlt
  have hbma := h.ha
  obtain ⟨z, hz⟩ : ∃ z, w.heap.size = z := ⟨_, rfl⟩
  have hbz : base ≤ z := by omega
  have hmaz : ma < z := by omega
  obtain ⟨o, ho⟩ : ∃ o, atN c.nodes y2 = o := ⟨_, rfl⟩
  rw [ho] at hr
  obtain ⟨o1, ho1⟩ : ∃ o, atN c.nodes y1 = o := ⟨_, rfl⟩
  rw [ho1] at hr
  clear hk hL hM
  replace h := hide h
  replace hr := hide hr
  replace qk := hide qk
  replace ho := hide ho
  replace ho1 := hide ho1
  replace hm := hide hm
  replace hms := hide hms
  go_enter Tryd.func62, Tryd.ntmps62
  go_upto_region 1 with fail
  apply wp_region_lit
  iterate 3 (refine wpList_plain rfl fun K hK => ?_; go_simp; refine hK _ _ ?_; clear hK K)
  refine wpList_plain rfl fun K hK => ?_
  go_simp
  refine (qk.out).mono ?_
  rintro e w ⟨rfl, rfl⟩
  go_simp
  refine hK _ _ ?_
  clear hK K
  iterate 1 (refine wpList_plain rfl fun K hK => ?_; go_simp; refine hK _ _ ?_; clear hK K)
  refine wpl_new rfl rfl 72 _ (alloc_nd _ rfl) 5 rfl (.tmp 20) rfl _ (fun _ => rfl) (fun _ => rfl) rfl (by kernel_rfl) (nd_one ⟨#[]⟩ (k : Int) (-1) 0 false 0 0) ?_
  intro w1 hg1 hb1 hz1
  rw [hz] at hg1 hb1 hz1
  refine wpList_nil ?_
  go_simp
  clear qk
  have c1b := (hb1.cell (p := ⟨b, off + 1, none⟩) (by dsimp only; omega)).trans c1
  obtain ⟨w2, hw2, hb2, hg2, hz2⟩ := loc_set (cs' := #[.string (str y1), .int .i64 (k : Int), .int .i64 (-1), .int .i64 0, .bool false, .int .u64 0, .int .u64 0]) hb1 hg1 0 (.string (str y1)) rfl
  have hca := blk_cell hg1
  have hfa := blk_free hg1
  replace hz2 : z < w2.heap.size := by omega
  clear hz1
  replace hb1 := hide hb1
  replace hg1 := hide hg1
  replace hb2 := hide hb2
  replace hg2 := hide hg2
  go_upto_region 8 with fail
  clear hca hfa hw2 hb1 hg1
  replace hb2 := hb2.out
  replace hg2 := hg2.out
  refine wp_region_X (Below (z + 1)) (by as_aux_lemma => kernel_rfl) ?_
  intro w3 hbd
  have hb3 := hb2.trans (hbd.mono (by omega))
  have hg3 := blk_below hbd (by omega) hg2
  have hz3 : z < w3.heap.size := Nat.lt_of_lt_of_le (by omega) hbd.size
  have hR := fun l : RelW (Below (z + 1)) w3 => h.out.on (by rw [hz]; exact hb3.trans (l.hk.mono (by omega)))
  have lx := fun l : RelW (Below (z + 1)) w3 => (show l.w.cell? ⟨x, 12, none⟩ = some (.map (some ma)) from blk_cell (hR l).cfg.blk 12)
  have lk := fun l : RelW (Below (z + 1)) w3 => (hR l).names.look y2 (Nat.le_trans l2 (by decide))
  rw [ho.out] at lk
  clear hR hbd
  clear hb2 hg2 hz2
  replace hb3 := hide hb3
  replace hg3 := hide hg3
  have lc := fun l : RelW (Below (z + 1)) w3 => (l.hk.cell (p := ⟨b, off + 2, none⟩) (by dsimp only; omega)).trans ((hb3.out.cell (p := ⟨b, off + 2, none⟩) (by dsimp only; omega)).trans c2)
  rcases o with _ | j
  · change ∀ l : RelW (Below (z + 1)) w3, (Instr.lookup 43 (.map (some ma)) (.string (str y2)) true).run Tryd.prog l.w = .ok (.tuple #[.int .i64 0, .bool false]) l.w at lk
    refine wpX_seg (Below (z + 1)) 0 13 (fuel := 0) (by as_aux_lemma => kernel_rfl) (fun d _ _ _ _ h => by cases d <;> exact h) (by as_aux_lemma => kernel_rfl) (by as_aux_lemma => kernel_rfl) ?_
    simp only [List.drop_zero, List.take_succ_cons, List.take_zero]
    iterate 13 (refine wpQX_step (fun K hK => ?_); go_simp; refine hK _ ?_; clear hK K)
    refine wpQF_nil ?_
    refine wpF_done (by as_aux_lemma => kernel_rfl) ?_ 0
    clear lk lx lc
    go_wp2_with fail
    refine bodyPost_ret (v := .int .i64 7) (by simp [results, Tryd.results62, go_sem]) rfl ?_
    exact lineEnd_err hr.out.symm (by decide) (by rw [hz]; exact hb3.out)
  change ∀ l : RelW (Below (z + 1)) w3, (Instr.lookup 43 (.map (some ma)) (.string (str y2)) true).run Tryd.prog l.w = .ok (.tuple #[.int .i64 (j : Int), .bool true]) l.w at lk
  refine wpX_seg (Below (z + 1)) 0 13 (fuel := 0) (by as_aux_lemma => kernel_rfl) (fun d _ _ _ _ h => by cases d <;> exact h) (by as_aux_lemma => kernel_rfl) (by as_aux_lemma => kernel_rfl) ?_
  simp only [List.drop_zero, List.take_succ_cons, List.take_zero]
  iterate 13 (refine wpQX_step (fun K hK => ?_); go_simp; refine hK _ ?_; clear hK K)
  refine wpQF_nil ?_
  refine wpF_done (by as_aux_lemma => kernel_rfl) ?_ 0
  clear lk lx lc
  replace hb3 := hb3.out
  replace hg3 := hg3.out
  have hr2 := hr.out
  clear hr
  dsimp only [Option.map] at hr2
  obtain ⟨w4, hw4, hb4, hg4, hz4⟩ := loc_set (cs' := #[.string (str y1), .int .i64 (k : Int), .int .i64 (j : Int), .int .i64 0, .bool false, .int .u64 0, .int .u64 0]) hb3 hg3 2 (.int .i64 (j : Int)) rfl
  have hca := blk_cell hg3
  have hfa := blk_free hg3
  replace hz4 : z < w4.heap.size := by omega
  clear hz3
  replace hb3 := hide hb3
  replace hg3 := hide hg3
  replace hb4 := hide hb4
  replace hg4 := hide hg4
  have hr := hide hr2
  clear hr2
  go_upto_region 22 with fail
  clear hca hfa hw4 hb3 hg3
  replace hb4 := hb4.out
  replace hg4 := hg4.out
  refine wp_region_X (Below (z + 1)) (by as_aux_lemma => kernel_rfl) ?_
  intro w5 hbd
  have hb5 := hb4.trans (hbd.mono (by omega))
  have hg5 := blk_below hbd (by omega) hg4
  have hz5 : z < w5.heap.size := Nat.lt_of_lt_of_le (by omega) hbd.size
  have hR := fun l : RelW (Below (z + 1)) w5 => h.out.on (by rw [hz]; exact hb5.trans (l.hk.mono (by omega)))
  have lx := fun l : RelW (Below (z + 1)) w5 => (show l.w.cell? ⟨x, 12, none⟩ = some (.map (some ma)) from blk_cell (hR l).cfg.blk 12)
  have lk := fun l : RelW (Below (z + 1)) w5 => (hR l).names.look y1 (Nat.le_trans l1 (by decide))
  rw [ho1.out] at lk
  clear hR hbd
  clear hb4 hg4 hz4
  replace hb5 := hide hb5
  replace hg5 := hide hg5
  have lc := fun l : RelW (Below (z + 1)) w5 => (l.hk.cell (p := ⟨z, 0, none⟩) (by dsimp only; omega)).trans (show w5.cell? ⟨z, 0, none⟩ = some (.string (str y1)) from blk_cell hg5.out 0)
  rcases o1 with _ | j1
  · change ∀ l : RelW (Below (z + 1)) w5, (Instr.lookup 43 (.map (some ma)) (.string (str y1)) true).run Tryd.prog l.w = .ok (.tuple #[.int .i64 0, .bool false]) l.w at lk
    refine wpX_seg (Below (z + 1)) 0 12 (fuel := 0) (by as_aux_lemma => kernel_rfl) (fun d _ _ _ _ h => by cases d <;> exact h) (by as_aux_lemma => kernel_rfl) (by as_aux_lemma => kernel_rfl) ?_
    simp only [List.drop_zero, List.take_succ_cons, List.take_zero]
    iterate 12 (refine wpQX_step (fun K hK => ?_); go_simp; refine hK _ ?_; clear hK K)
    refine wpQF_nil ?_
    refine wpF_done (by as_aux_lemma => kernel_rfl) ?_ 0
    clear lk lx lc
    go_upto_region 25 with fail
    refine wp_region_Y [12] (Below (z + 1)) (by as_aux_lemma => kernel_rfl) ?_
    intro w6 hbd
    have hb6 := hb5.out.trans (hbd.mono (by omega))
    have hg6 := blk_below hbd (by omega) hg5.out
    have hz6 : z < w6.heap.size := Nat.lt_of_lt_of_le (by omega) hbd.size
    have hR := fun l : RelW (Below (z + 1)) w6 => h.out.on (by rw [hz]; exact hb6.trans (l.hk.mono (by omega)))
    have hR0 := h.out.on (by rw [hz]; exact hb6)
    have lx := fun l : RelW (Below (z + 1)) w6 => (show l.w.cell? ⟨x, 12, none⟩ = some (.map (some ma)) from blk_cell (hR l).cfg.blk 12)
    have lc := fun l : RelW (Below (z + 1)) w6 => (l.hk.cell (p := ⟨z, 0, none⟩) (by dsimp only; omega)).trans (show w6.cell? ⟨z, 0, none⟩ = some (.string (str y1)) from blk_cell hg6 0)
    obtain ⟨An, cn, hvn, -, -, -⟩ := own_isv hR0.cfg.nodes
    subst hvn
    have ln := fun l : RelW (Below (z + 1)) w6 => (show l.w.cell? ⟨x, 0, none⟩ = some (.slice An c.nodes.length cn) from blk_cell (hR l).cfg.blk 0)
    clear hR hbd
    clear hb5 hg5 hz5
    replace hb6 := hide hb6
    replace hg6 := hide hg6
    replace hR0 := hide hR0
    refine wpY_seg [12] (Below (z + 1)) 0 12 (fuel := 1) (by as_aux_lemma => kernel_rfl) (fun d _ _ _ _ h => by cases d <;> exact h) (by as_aux_lemma => kernel_rfl) (by as_aux_lemma => kernel_rfl) (by as_aux_lemma => kernel_rfl) ?_
    simp only [List.drop_zero, List.take_succ_cons, List.take_zero]
    iterate 12 (refine wpQX_step (fun K hK => ?_); go_simp; refine hK _ ?_; clear hK K)
    refine wpQF_nil ?_
    clear lx lc ln
    refine wpW_step 12 rfl (by as_aux_lemma => kernel_rfl) (fun K hK => ?_)
    rw [if_pos (by unfold Region.wanted; rfl)]
    refine wp_putI (.tmp 113) (.tmp 115) (.tmp 121) rfl ma c.nodes.length (atN c.nodes) y1 c.nodes.length (Nat.le_trans l1 (by decide)) (by have := hs.1; omega) (by have := hs.1; omega) rfl rfl rfl hR0.out.names fun w7 hM hgm v0 => hK _ _ (relY_wr (by as_aux_lemma => kernel_rfl)) ?_
    clear hK K
    have hN := hR0.out.named hgm hM
    have hbb := (hb6.out.mono hbz).trans (below_of_grown (base := base) hgm (by omega) (fun k hk => by cases hk; exact hbma))
    have hg7 := grown_other hgm (by omega) (by omega) hg6.out
    have hz7 : z < w7.heap.size := lt_of_blk hg7
    clear hM hgm hR0 hb6 hg6 hz6
    replace hN := hide hN
    replace hbb := hide hbb
    replace hg7 := hide hg7
    refine wpW_done (by as_aux_lemma => kernel_rfl) ?_ _
    go_upto_region 26 with fail
    have hrx := row_not_x hN.out.cfg.nodes hN.out.cfg.blk hN.out.cfg.hT.1
    have hrz : (Value.slice An c.nodes.length cn).ownBlock = some z → False := fun e => by have := (World.ownsRow.lt h.out.cfg.nodes _ e).2; omega
    refine wp_region_Y [12] (KeptS w7.heap.size (fun k => (Value.slice An c.nodes.length cn).ownBlock = some k)) (by as_aux_lemma => kernel_rfl) ?_
    intro w8 hbd
    have hN8 := hN.out.on hbd
    have hge := blk_below hbd hz7 hg7.out
    have hbe := hbb.out.trans (hbd.mono (by omega))
    have ze := hbd.size
    have lx := fun l : RelW (KeptS w7.heap.size (fun k => (Value.slice An c.nodes.length cn).ownBlock = some k)) w8 => (show l.w.cell? ⟨x, 0, none⟩ = some (Value.slice An c.nodes.length cn) from blk_cell ((l.hk.block x (lt_of_blk hN.out.cfg.blk) (by rcases hrx with e | e <;> (intro e2; first | (rw [e] at e2; cases e2) | exact e e2))).trans hN8.cfg.blk) 0)
    have lz := fun l : RelW (KeptS w7.heap.size (fun k => (Value.slice An c.nodes.length cn).ownBlock = some k)) w8 => blk_cell ((l.hk.block z hz7 hrz).trans hge)
    clear hN hg7 hbb hbd hrx hrz
    replace hN8 := hide hN8
    replace hbe := hide hbe
    refine wpY_seg [12] (KeptS w7.heap.size (fun k => (Value.slice An c.nodes.length cn).ownBlock = some k)) 0 7 (fuel := 6) (by as_aux_lemma => kernel_rfl) (fun d _ _ _ _ h => by cases d <;> exact h) (by as_aux_lemma => kernel_rfl) (by as_aux_lemma => kernel_rfl) (by as_aux_lemma => kernel_rfl) ?_
    simp only [List.drop_zero, List.take_succ_cons, List.take_zero]
    iterate 7 (refine wpQX_step (fun K hK => ?_); go_simp; refine hK _ ?_; clear hK K)
    refine wpQF_nil ?_
    clear lx lz hge
    obtain ⟨ND, hND⟩ : ∃ ND : Nd, ND = ⟨y1, (k : Int), (j : Int), 0, zA⟩ := ⟨_, rfl⟩
    have hC : ndC ND = [.string (str y1), .int .i64 (k : Int), .int .i64 (j : Int), .int .i64 0, .bool false, .int .u64 0, .int .u64 0] := by rw [hND]; rfl
    refine wpW_step 7 rfl (by as_aux_lemma => kernel_rfl) (fun K hK => ?_)
    go_simp
    refine hK _ _ (relY_of (keptS_of_below ((Below.refl _ _).alloc (Nat.le_refl _) _) ze)) ?_
    clear hK K
    obtain ⟨wt, hwt⟩ : ∃ wt, w8.alloc (.cells (ndC ND).toArray 72) = wt := ⟨_, rfl⟩
    have hbt : Below w8.heap.size w8 wt := hwt ▸ (Below.refl _ _).alloc (Nat.le_refl _) _
    have hnt : wt.heap[w8.heap.size]? = some (.cells (ndC ND).toArray 72 (0, 0)) := hwt ▸ blk_new _ _ _
    rw [hC] at hwt
    change wpW _ _ _ _ _ _ _ _ (w8.alloc (.cells ([.string (str y1), .int .i64 (k : Int), .int .i64 (j : Int), .int .i64 0, .bool false, .int .u64 0, .int .u64 0]).toArray 72))
    rw [hwt]
    have hNt := hN8.out.on hbt
    have hbf := hbe.out.trans (hbt.mono (by omega))
    have zt := hbt.size
    clear hwt hbt hN8 hbe
    refine wpW_step 8 rfl (by as_aux_lemma => kernel_rfl) (fun K hK => ?_)
    rw [if_pos (by unfold Region.wanted; rfl)]
    refine wp_app_c (T := 72) Tryd.underlying22 info_nd rfl (by decide) (by decide) (.tmp 127) (.tmp 129) rfl base _ c.nodes.length _ (ndC ND) w8.heap.size rfl rfl hNt.cfg.nodes hnt rfl (ndC_one _) (by omega) (by have := hs.1; omega) fun v11 w11 h1 h2 => hK _ _ (relY_of ⟨h2.grown.os, h2.grown.tape, h2.grown.output, h2.grown.size, fun k hk hne => h2.grown.block k (by omega) (fun e => hne e.symm)⟩) ?_
    clear hK K hnt
    obtain ⟨A11, c11, hv11, -, -, -⟩ := own_isv h1
    subst hv11
    have hNt2 : RdN wt base x mb ma c ND.name (.slice An c.nodes.length cn) vv wv := by rw [hND]; exact hNt
    obtain ⟨hx11, hL12⟩ := hNt2.pushN (by rw [hND]; exact ho1.out) h1 h2
    have hB11 := hbf.trans (below_of_grown h2.grown (by omega) (fun k hk => (World.ownsRow.lt hNt.cfg.nodes _ hk).1))
    have hB12 : Below base w (w11.setCell ⟨x, 0, none⟩ (.slice A11 (c.nodes.length + 1) c11)) := hB11.setCell (p := ⟨x, 0, none⟩) hbx _
    have hc : w11.cell? ⟨x, 0, none⟩ = some (Value.slice An c.nodes.length cn) := blk_cell hx11 0
    have hf := blk_free hx11 0
    clear h1 h2 hNt hNt2 hbf hB11 hx11
    obtain ⟨w12, hw12⟩ : ∃ w12, w11.setCell ⟨x, 0, none⟩ (.slice A11 (c.nodes.length + 1) c11) = w12 := ⟨_, rfl⟩
    rw [hw12] at hL12 hB12
    replace hL12 := hide hL12
    replace hB12 := hide hB12
    replace hND := hide hND
    replace hC := hide hC
    refine wpW_step 9 rfl (by as_aux_lemma => kernel_rfl) (fun K hK => ?_)
    go_simp
    refine hK _ _ (relY_of (IsRel.refl _)) ?_
    clear hK K
    refine wpW_step 10 rfl (by as_aux_lemma => kernel_rfl) (fun K hK => ?_)
    go_simp
    refine hK _ _ (relY_of (IsRel.refl _)) ?_
    clear hK K
    refine wpW_step 11 rfl (by as_aux_lemma => kernel_rfl) (fun K hK => ?_)
    go_simp
    refine hK _ _ (relY_of (IsRel.refl _)) ?_
    clear hK K
    refine wpW_step 12 rfl (by as_aux_lemma => kernel_rfl) (fun K hK => ?_)
    go_simp
    refine hK _ _ (relY_wr (by as_aux_lemma => kernel_rfl)) ?_
    clear hK K hc hf hw12
    refine wpW_done (by as_aux_lemma => kernel_rfl) ?_ _
    go_wp2_with fail
    refine bodyPost_ret (v := .int .i64 0) (by simp [results, Tryd.results62, go_sem]) rfl ?_
    have hL := hL12.out
    rw [hND.out] at hL
    exact lineEnd_ok hr.out.symm ⟨mb, ma, _, vv, wv, hL⟩ hB12.out
  change ∀ l : RelW (Below (z + 1)) w5, (Instr.lookup 43 (.map (some ma)) (.string (str y1)) true).run Tryd.prog l.w = .ok (.tuple #[.int .i64 (j1 : Int), .bool true]) l.w at lk
  refine wpX_seg (Below (z + 1)) 0 12 (fuel := 0) (by as_aux_lemma => kernel_rfl) (fun d _ _ _ _ h => by cases d <;> exact h) (by as_aux_lemma => kernel_rfl) (by as_aux_lemma => kernel_rfl) ?_
  simp only [List.drop_zero, List.take_succ_cons, List.take_zero]
  iterate 12 (refine wpQX_step (fun K hK => ?_); go_simp; refine hK _ ?_; clear hK K)
  refine wpQF_nil ?_
  refine wpF_done (by as_aux_lemma => kernel_rfl) ?_ 0
  clear lk lx lc
  go_wp2_with fail
  refine bodyPost_ret (v := .int .i64 8) (by simp [results, Tryd.results62, go_sem]) rfl ?_
  exact lineEnd_err hr.out.symm (by decide) (by rw [hz]; exact hb5.out)
end Conf18
end Go.Proofs.YtcpokkkdmenmgaaDoor
/- conf: node: a line of 4 words. Conditions: words of at most 2^16 bytes. -/
namespace Go.Proofs.YtcpokkkdmenmgaaDoor
open Go.RowKit Go.ChangeShapes Go.WideShapes Go.ChangeAt Go.Deep
namespace Conf18
open Addr05
set_option maxRecDepth 20000 in
set_option maxHeartbeats 16000000 in
theorem node4_any (y0 y1 y2 y3 : List UInt8) (k : Nat) (hk1 : 2 ≤ k) (hk2 : k ≤ 3) (hk : kindF y0 = k) (c : Cfg) (w : World) (base x b off cap : Nat) (hb : b < base) (c0 : w.cell? ⟨b, off, none⟩ = some (.string (str y0))) (c1 : w.cell? ⟨b, off + 1, none⟩ = some (.string (str y1))) (c2 : w.cell? ⟨b, off + 2, none⟩ = some (.string (str y2))) (c3 : w.cell? ⟨b, off + 3, none⟩ = some (.string (str y3))) (_l0 : y0.length ≤ 65536) (l1 : y1.length ≤ 65536) (l2 : y2.length ≤ 65536) (l3 : y3.length ≤ 65536) (hm : MaxAt w) (hs : c.small 4096) (hR : RdAt base x w c) :
    Calls Tryd.prog 62 #[.pointer (some ⟨x, 0, none⟩), .slice (some ⟨b, off, none⟩) 4 cap] w fun e w' => LineEnd (RdAt base x) base (nodeF k c [y0, y1, y2, y3]) w w' e := by
  obtain ⟨r, hr⟩ : ∃ r, nodeF k c [y0, y1, y2, y3] = r := ⟨_, rfl⟩
  rw [hr]
  have hL : leastF k = 3 := by unfold leastF; rw [if_neg (by omega), if_pos (by omega)]
  have hM : mostF k = 4 := by unfold mostF; rw [if_neg (by omega), if_pos (by omega)]
  have i2 := idx_most k (by omega) (by omega)
  have i3 := idx_least k (by omega) (by omega)
  rw [hM] at i2
  rw [hL] at i3
  unfold nodeF at hr
  rw [hL, hM, if_neg (by simp only [List.length_cons, List.length_nil]; omega)] at hr
  rw [show aboveF c [y0, y1, y2, y3] = (atN c.nodes y2).map fun k => (k : Int) from rfl, show nadrF [y0, y1, y2, y3] = some zA from rfl] at hr
  have hW : weightF k [y0, y1, y2, y3] = match lexF y3 65535 with | none => none | some v => if v = 0 ∧ k ≠ 4 then none else some v := rfl
  rw [hW] at hr
  clear hW
  rw [show wd [y0, y1, y2, y3] 1 = y1 from rfl] at hr
  have qk := kind_any y0 w
  rw [hk] at qk
  change ∀ w, (Instr.index 152 (.agg #[.int .i64 0, .int .i64 2, .int .i64 4, .int .i64 4, .int .i64 5]) (.int .i64 (k : Int))).run Tryd.prog w = .ok (.int .i64 4) w at i2
  change ∀ w, (Instr.index 152 (.agg #[.int .i64 0, .int .i64 2, .int .i64 3, .int .i64 3, .int .i64 5]) (.int .i64 (k : Int))).run Tryd.prog w = .ok (.int .i64 3) w at i3
  obtain ⟨mb, ma, nv, vv, wv, h⟩ := hR
  have hbx := h.cfg.hx
  have hxs := h.xlt
  have hms := h.mlt
  have hbma := h.ha
  obtain ⟨z, hz⟩ : ∃ z, w.heap.size = z := ⟨_, rfl⟩
  have hbz : base ≤ z := by omega
  have hmaz : ma < z := by omega
  have q3 := fun w => lexNum_any y3 (Nat.le_trans l3 (by decide)) 65535 w
  obtain ⟨o, ho⟩ : ∃ o, atN c.nodes y2 = o := ⟨_, rfl⟩
  rw [ho] at hr
  obtain ⟨o1, ho1⟩ : ∃ o, atN c.nodes y1 = o := ⟨_, rfl⟩
  rw [ho1] at hr
  clear hk hL hM
  replace h := hide h
  replace hr := hide hr
  replace qk := hide qk
  replace ho := hide ho
  replace ho1 := hide ho1
  replace hm := hide hm
  replace hms := hide hms
  replace q3 := hide q3
  go_enter Tryd.func62, Tryd.ntmps62
  go_upto_region 1 with fail
  apply wp_region_lit
  iterate 3 (refine wpList_plain rfl fun K hK => ?_; go_simp; refine hK _ _ ?_; clear hK K)
  refine wpList_plain rfl fun K hK => ?_
  go_simp
  refine (qk.out).mono ?_
  rintro e w ⟨rfl, rfl⟩
  go_simp
  refine hK _ _ ?_
  clear hK K
  iterate 1 (refine wpList_plain rfl fun K hK => ?_; go_simp; refine hK _ _ ?_; clear hK K)
  refine wpl_new rfl rfl 72 _ (alloc_nd _ rfl) 5 rfl (.tmp 20) rfl _ (fun _ => rfl) (fun _ => rfl) rfl (by kernel_rfl) (nd_one ⟨#[]⟩ (k : Int) (-1) 0 false 0 0) ?_
  intro w1 hg1 hb1 hz1
  rw [hz] at hg1 hb1 hz1
  refine wpList_nil ?_
  go_simp
  clear qk
  have c1b := (hb1.cell (p := ⟨b, off + 1, none⟩) (by dsimp only; omega)).trans c1
  obtain ⟨w2, hw2, hb2, hg2, hz2⟩ := loc_set (cs' := #[.string (str y1), .int .i64 (k : Int), .int .i64 (-1), .int .i64 0, .bool false, .int .u64 0, .int .u64 0]) hb1 hg1 0 (.string (str y1)) rfl
  have hca := blk_cell hg1
  have hfa := blk_free hg1
  replace hz2 : z < w2.heap.size := by omega
  clear hz1
  replace hb1 := hide hb1
  replace hg1 := hide hg1
  replace hb2 := hide hb2
  replace hg2 := hide hg2
  go_upto_region 8 with fail
  clear hca hfa hw2 hb1 hg1
  replace hb2 := hb2.out
  replace hg2 := hg2.out
  refine wp_region_X (Below (z + 1)) (by as_aux_lemma => kernel_rfl) ?_
  intro w3 hbd
  have hb3 := hb2.trans (hbd.mono (by omega))
  have hg3 := blk_below hbd (by omega) hg2
  have hz3 : z < w3.heap.size := Nat.lt_of_lt_of_le (by omega) hbd.size
  have hR := fun l : RelW (Below (z + 1)) w3 => h.out.on (by rw [hz]; exact hb3.trans (l.hk.mono (by omega)))
  have lx := fun l : RelW (Below (z + 1)) w3 => (show l.w.cell? ⟨x, 12, none⟩ = some (.map (some ma)) from blk_cell (hR l).cfg.blk 12)
  have lk := fun l : RelW (Below (z + 1)) w3 => (hR l).names.look y2 (Nat.le_trans l2 (by decide))
  rw [ho.out] at lk
  clear hR hbd
  clear hb2 hg2 hz2
  replace hb3 := hide hb3
  replace hg3 := hide hg3
  have lc := fun l : RelW (Below (z + 1)) w3 => (l.hk.cell (p := ⟨b, off + 2, none⟩) (by dsimp only; omega)).trans ((hb3.out.cell (p := ⟨b, off + 2, none⟩) (by dsimp only; omega)).trans c2)
  rcases o with _ | j
  · change ∀ l : RelW (Below (z + 1)) w3, (Instr.lookup 43 (.map (some ma)) (.string (str y2)) true).run Tryd.prog l.w = .ok (.tuple #[.int .i64 0, .bool false]) l.w at lk
    refine wpX_seg (Below (z + 1)) 0 13 (fuel := 0) (by as_aux_lemma => kernel_rfl) (fun d _ _ _ _ h => by cases d <;> exact h) (by as_aux_lemma => kernel_rfl) (by as_aux_lemma => kernel_rfl) ?_
    simp only [List.drop_zero, List.take_succ_cons, List.take_zero]
    iterate 13 (refine wpQX_step (fun K hK => ?_); go_simp; refine hK _ ?_; clear hK K)
    refine wpQF_nil ?_
    refine wpF_done (by as_aux_lemma => kernel_rfl) ?_ 0
    clear lk lx lc
    go_wp2_with fail
    refine bodyPost_ret (v := .int .i64 7) (by simp [results, Tryd.results62, go_sem]) rfl ?_
    exact lineEnd_err hr.out.symm (by decide) (by rw [hz]; exact hb3.out)
  change ∀ l : RelW (Below (z + 1)) w3, (Instr.lookup 43 (.map (some ma)) (.string (str y2)) true).run Tryd.prog l.w = .ok (.tuple #[.int .i64 (j : Int), .bool true]) l.w at lk
  refine wpX_seg (Below (z + 1)) 0 13 (fuel := 0) (by as_aux_lemma => kernel_rfl) (fun d _ _ _ _ h => by cases d <;> exact h) (by as_aux_lemma => kernel_rfl) (by as_aux_lemma => kernel_rfl) ?_
  simp only [List.drop_zero, List.take_succ_cons, List.take_zero]
  iterate 13 (refine wpQX_step (fun K hK => ?_); go_simp; refine hK _ ?_; clear hK K)
  refine wpQF_nil ?_
  refine wpF_done (by as_aux_lemma => kernel_rfl) ?_ 0
  clear lk lx lc
  replace hb3 := hb3.out
  replace hg3 := hg3.out
  have hr2 := hr.out
  clear hr
  dsimp only [Option.map] at hr2
  obtain ⟨w4, hw4, hb4, hg4, hz4⟩ := loc_set (cs' := #[.string (str y1), .int .i64 (k : Int), .int .i64 (j : Int), .int .i64 0, .bool false, .int .u64 0, .int .u64 0]) hb3 hg3 2 (.int .i64 (j : Int)) rfl
  have hca := blk_cell hg3
  have hfa := blk_free hg3
  replace hz4 : z < w4.heap.size := by omega
  clear hz3
  replace hb3 := hide hb3
  replace hg3 := hide hg3
  replace hb4 := hide hb4
  replace hg4 := hide hg4
  have c3b := (hb4.out.cell (p := ⟨b, off + 3, none⟩) (by dsimp only; omega)).trans c3
  rcases hv : lexF y3 65535 with _ | v
  · rw [hv] at hr2
    have q4 := q3.out w4
    rw [hv, lexV_none] at q4
    have hr := hide hr2
    clear hr2 hv
    replace q4 := hide q4
    go_wp2_with fail
    refine (q4.out).mono ?_
    rintro e w4 ⟨rfl, rfl⟩
    clear hca hfa hw4 hb3 hg3
    go_wp2_with fail
    refine bodyPost_ret (v := .int .i64 17) (by simp [results, Tryd.results62, go_sem]) rfl ?_
    exact lineEnd_err hr.out.symm (by decide) (by rw [hz]; exact hb4.out)
  rw [hv] at hr2
  dsimp only at hr2
  have q4 := q3.out w4
  rw [hv, lexV_some] at q4
  clear hv
  replace q4 := hide q4
  go_wp2_with fail
  refine (q4.out).mono ?_
  rintro e w4 ⟨rfl, rfl⟩
  clear hca hfa hw4 hb3 hg3
  replace hb4 := hb4.out
  replace hg4 := hg4.out
  have hgc := blk_cell hg4
  have tk : ((k : Int) != 4) = true := by rw [bne_iff_ne]; omega
  by_cases hv0 : v = 0
  · subst hv0
    rw [if_pos ⟨rfl, by omega⟩] at hr2
    have hr := hide hr2
    clear hr2
    replace hb4 := hide hb4
    replace hg4 := hide hg4
    go_wp2_with fail
    refine bodyPost_ret (v := .int .i64 17) (by simp [results, Tryd.results62, go_sem]) rfl ?_
    exact lineEnd_err hr.out.symm (by decide) (by rw [hz]; exact hb4.out)
  rw [if_neg (fun e => hv0 e.1)] at hr2
  have tv : ((v : Int) == 0) = false := by rw [beq_eq_false_iff_ne]; omega
  have tv2 : ¬ (v : Int) = 0 := by omega
  clear hgc
  obtain ⟨w5, hw5, hb5, hg5, hz5⟩ := loc_set (cs' := #[.string (str y1), .int .i64 (k : Int), .int .i64 (j : Int), .int .i64 (v : Int), .bool false, .int .u64 0, .int .u64 0]) hb4 hg4 3 (.int .i64 (v : Int)) rfl
  have hca := blk_cell hg4
  have hfa := blk_free hg4
  replace hz5 : z < w5.heap.size := by omega
  clear hz4
  replace hb4 := hide hb4
  replace hg4 := hide hg4
  replace hb5 := hide hb5
  replace hg5 := hide hg5
  have hr := hide hr2
  clear hr2
  go_upto_region 22 with fail
  clear hca hfa hw5 hb4 hg4
  replace hb5 := hb5.out
  replace hg5 := hg5.out
  refine wp_region_X (Below (z + 1)) (by as_aux_lemma => kernel_rfl) ?_
  intro w6 hbd
  have hb6 := hb5.trans (hbd.mono (by omega))
  have hg6 := blk_below hbd (by omega) hg5
  have hz6 : z < w6.heap.size := Nat.lt_of_lt_of_le (by omega) hbd.size
  have hR := fun l : RelW (Below (z + 1)) w6 => h.out.on (by rw [hz]; exact hb6.trans (l.hk.mono (by omega)))
  have lx := fun l : RelW (Below (z + 1)) w6 => (show l.w.cell? ⟨x, 12, none⟩ = some (.map (some ma)) from blk_cell (hR l).cfg.blk 12)
  have lk := fun l : RelW (Below (z + 1)) w6 => (hR l).names.look y1 (Nat.le_trans l1 (by decide))
  rw [ho1.out] at lk
  clear hR hbd
  clear hb5 hg5 hz5
  replace hb6 := hide hb6
  replace hg6 := hide hg6
  have lc := fun l : RelW (Below (z + 1)) w6 => (l.hk.cell (p := ⟨z, 0, none⟩) (by dsimp only; omega)).trans (show w6.cell? ⟨z, 0, none⟩ = some (.string (str y1)) from blk_cell hg6.out 0)
  rcases o1 with _ | j1
  · change ∀ l : RelW (Below (z + 1)) w6, (Instr.lookup 43 (.map (some ma)) (.string (str y1)) true).run Tryd.prog l.w = .ok (.tuple #[.int .i64 0, .bool false]) l.w at lk
    refine wpX_seg (Below (z + 1)) 0 12 (fuel := 0) (by as_aux_lemma => kernel_rfl) (fun d _ _ _ _ h => by cases d <;> exact h) (by as_aux_lemma => kernel_rfl) (by as_aux_lemma => kernel_rfl) ?_
    simp only [List.drop_zero, List.take_succ_cons, List.take_zero]
    iterate 12 (refine wpQX_step (fun K hK => ?_); go_simp; refine hK _ ?_; clear hK K)
    refine wpQF_nil ?_
    refine wpF_done (by as_aux_lemma => kernel_rfl) ?_ 0
    clear lk lx lc
    go_upto_region 25 with fail
    refine wp_region_Y [12] (Below (z + 1)) (by as_aux_lemma => kernel_rfl) ?_
    intro w7 hbd
    have hb7 := hb6.out.trans (hbd.mono (by omega))
    have hg7 := blk_below hbd (by omega) hg6.out
    have hz7 : z < w7.heap.size := Nat.lt_of_lt_of_le (by omega) hbd.size
    have hR := fun l : RelW (Below (z + 1)) w7 => h.out.on (by rw [hz]; exact hb7.trans (l.hk.mono (by omega)))
    have hR0 := h.out.on (by rw [hz]; exact hb7)
    have lx := fun l : RelW (Below (z + 1)) w7 => (show l.w.cell? ⟨x, 12, none⟩ = some (.map (some ma)) from blk_cell (hR l).cfg.blk 12)
    have lc := fun l : RelW (Below (z + 1)) w7 => (l.hk.cell (p := ⟨z, 0, none⟩) (by dsimp only; omega)).trans (show w7.cell? ⟨z, 0, none⟩ = some (.string (str y1)) from blk_cell hg7 0)
    obtain ⟨An, cn, hvn, -, -, -⟩ := own_isv hR0.cfg.nodes
    subst hvn
    have ln := fun l : RelW (Below (z + 1)) w7 => (show l.w.cell? ⟨x, 0, none⟩ = some (.slice An c.nodes.length cn) from blk_cell (hR l).cfg.blk 0)
    clear hR hbd
    clear hb6 hg6 hz6
    replace hb7 := hide hb7
    replace hg7 := hide hg7
    replace hR0 := hide hR0
    refine wpY_seg [12] (Below (z + 1)) 0 12 (fuel := 1) (by as_aux_lemma => kernel_rfl) (fun d _ _ _ _ h => by cases d <;> exact h) (by as_aux_lemma => kernel_rfl) (by as_aux_lemma => kernel_rfl) (by as_aux_lemma => kernel_rfl) ?_
    simp only [List.drop_zero, List.take_succ_cons, List.take_zero]
    iterate 12 (refine wpQX_step (fun K hK => ?_); go_simp; refine hK _ ?_; clear hK K)
    refine wpQF_nil ?_
    clear lx lc ln
    refine wpW_step 12 rfl (by as_aux_lemma => kernel_rfl) (fun K hK => ?_)
    rw [if_pos (by unfold Region.wanted; rfl)]
    refine wp_putI (.tmp 113) (.tmp 115) (.tmp 121) rfl ma c.nodes.length (atN c.nodes) y1 c.nodes.length (Nat.le_trans l1 (by decide)) (by have := hs.1; omega) (by have := hs.1; omega) rfl rfl rfl hR0.out.names fun w8 hM hgm v0 => hK _ _ (relY_wr (by as_aux_lemma => kernel_rfl)) ?_
    clear hK K
    have hN := hR0.out.named hgm hM
    have hbb := (hb7.out.mono hbz).trans (below_of_grown (base := base) hgm (by omega) (fun k hk => by cases hk; exact hbma))
    have hg8 := grown_other hgm (by omega) (by omega) hg7.out
    have hz8 : z < w8.heap.size := lt_of_blk hg8
    clear hM hgm hR0 hb7 hg7 hz7
    replace hN := hide hN
    replace hbb := hide hbb
    replace hg8 := hide hg8
    refine wpW_done (by as_aux_lemma => kernel_rfl) ?_ _
    go_upto_region 26 with fail
    have hrx := row_not_x hN.out.cfg.nodes hN.out.cfg.blk hN.out.cfg.hT.1
    have hrz : (Value.slice An c.nodes.length cn).ownBlock = some z → False := fun e => by have := (World.ownsRow.lt h.out.cfg.nodes _ e).2; omega
    refine wp_region_Y [12] (KeptS w8.heap.size (fun k => (Value.slice An c.nodes.length cn).ownBlock = some k)) (by as_aux_lemma => kernel_rfl) ?_
    intro w9 hbd
    have hN9 := hN.out.on hbd
    have hge := blk_below hbd hz8 hg8.out
    have hbe := hbb.out.trans (hbd.mono (by omega))
    have ze := hbd.size
    have lx := fun l : RelW (KeptS w8.heap.size (fun k => (Value.slice An c.nodes.length cn).ownBlock = some k)) w9 => (show l.w.cell? ⟨x, 0, none⟩ = some (Value.slice An c.nodes.length cn) from blk_cell ((l.hk.block x (lt_of_blk hN.out.cfg.blk) (by rcases hrx with e | e <;> (intro e2; first | (rw [e] at e2; cases e2) | exact e e2))).trans hN9.cfg.blk) 0)
    have lz := fun l : RelW (KeptS w8.heap.size (fun k => (Value.slice An c.nodes.length cn).ownBlock = some k)) w9 => blk_cell ((l.hk.block z hz8 hrz).trans hge)
    clear hN hg8 hbb hbd hrx hrz
    replace hN9 := hide hN9
    replace hbe := hide hbe
    refine wpY_seg [12] (KeptS w8.heap.size (fun k => (Value.slice An c.nodes.length cn).ownBlock = some k)) 0 7 (fuel := 6) (by as_aux_lemma => kernel_rfl) (fun d _ _ _ _ h => by cases d <;> exact h) (by as_aux_lemma => kernel_rfl) (by as_aux_lemma => kernel_rfl) (by as_aux_lemma => kernel_rfl) ?_
    simp only [List.drop_zero, List.take_succ_cons, List.take_zero]
    iterate 7 (refine wpQX_step (fun K hK => ?_); go_simp; refine hK _ ?_; clear hK K)
    refine wpQF_nil ?_
    clear lx lz hge
    obtain ⟨ND, hND⟩ : ∃ ND : Nd, ND = ⟨y1, (k : Int), (j : Int), (v : Int), zA⟩ := ⟨_, rfl⟩
    have hC : ndC ND = [.string (str y1), .int .i64 (k : Int), .int .i64 (j : Int), .int .i64 (v : Int), .bool false, .int .u64 0, .int .u64 0] := by rw [hND]; rfl
    refine wpW_step 7 rfl (by as_aux_lemma => kernel_rfl) (fun K hK => ?_)
    go_simp
    refine hK _ _ (relY_of (keptS_of_below ((Below.refl _ _).alloc (Nat.le_refl _) _) ze)) ?_
    clear hK K
    obtain ⟨wt, hwt⟩ : ∃ wt, w9.alloc (.cells (ndC ND).toArray 72) = wt := ⟨_, rfl⟩
    have hbt : Below w9.heap.size w9 wt := hwt ▸ (Below.refl _ _).alloc (Nat.le_refl _) _
    have hnt : wt.heap[w9.heap.size]? = some (.cells (ndC ND).toArray 72 (0, 0)) := hwt ▸ blk_new _ _ _
    rw [hC] at hwt
    change wpW _ _ _ _ _ _ _ _ (w9.alloc (.cells ([.string (str y1), .int .i64 (k : Int), .int .i64 (j : Int), .int .i64 (v : Int), .bool false, .int .u64 0, .int .u64 0]).toArray 72))
    rw [hwt]
    have hNt := hN9.out.on hbt
    have hbf := hbe.out.trans (hbt.mono (by omega))
    have zt := hbt.size
    clear hwt hbt hN9 hbe
    refine wpW_step 8 rfl (by as_aux_lemma => kernel_rfl) (fun K hK => ?_)
    rw [if_pos (by unfold Region.wanted; rfl)]
    refine wp_app_c (T := 72) Tryd.underlying22 info_nd rfl (by decide) (by decide) (.tmp 127) (.tmp 129) rfl base _ c.nodes.length _ (ndC ND) w9.heap.size rfl rfl hNt.cfg.nodes hnt rfl (ndC_one _) (by omega) (by have := hs.1; omega) fun v11 w11 h1 h2 => hK _ _ (relY_of ⟨h2.grown.os, h2.grown.tape, h2.grown.output, h2.grown.size, fun k hk hne => h2.grown.block k (by omega) (fun e => hne e.symm)⟩) ?_
    clear hK K hnt
    obtain ⟨A11, c11, hv11, -, -, -⟩ := own_isv h1
    subst hv11
    have hNt2 : RdN wt base x mb ma c ND.name (.slice An c.nodes.length cn) vv wv := by rw [hND]; exact hNt
    obtain ⟨hx11, hL12⟩ := hNt2.pushN (by rw [hND]; exact ho1.out) h1 h2
    have hB11 := hbf.trans (below_of_grown h2.grown (by omega) (fun k hk => (World.ownsRow.lt hNt.cfg.nodes _ hk).1))
    have hB12 : Below base w (w11.setCell ⟨x, 0, none⟩ (.slice A11 (c.nodes.length + 1) c11)) := hB11.setCell (p := ⟨x, 0, none⟩) hbx _
    have hc : w11.cell? ⟨x, 0, none⟩ = some (Value.slice An c.nodes.length cn) := blk_cell hx11 0
    have hf := blk_free hx11 0
    clear h1 h2 hNt hNt2 hbf hB11 hx11
    obtain ⟨w12, hw12⟩ : ∃ w12, w11.setCell ⟨x, 0, none⟩ (.slice A11 (c.nodes.length + 1) c11) = w12 := ⟨_, rfl⟩
    rw [hw12] at hL12 hB12
    replace hL12 := hide hL12
    replace hB12 := hide hB12
    replace hND := hide hND
    replace hC := hide hC
    refine wpW_step 9 rfl (by as_aux_lemma => kernel_rfl) (fun K hK => ?_)
    go_simp
    refine hK _ _ (relY_of (IsRel.refl _)) ?_
    clear hK K
    refine wpW_step 10 rfl (by as_aux_lemma => kernel_rfl) (fun K hK => ?_)
    go_simp
    refine hK _ _ (relY_of (IsRel.refl _)) ?_
    clear hK K
    refine wpW_step 11 rfl (by as_aux_lemma => kernel_rfl) (fun K hK => ?_)
    go_simp
    refine hK _ _ (relY_of (IsRel.refl _)) ?_
    clear hK K
    refine wpW_step 12 rfl (by as_aux_lemma => kernel_rfl) (fun K hK => ?_)
    go_simp
    refine hK _ _ (relY_wr (by as_aux_lemma => kernel_rfl)) ?_
    clear hK K hc hf hw12
    refine wpW_done (by as_aux_lemma => kernel_rfl) ?_ _
    go_wp2_with fail
    refine bodyPost_ret (v := .int .i64 0) (by simp [results, Tryd.results62, go_sem]) rfl ?_
    have hL := hL12.out
    rw [hND.out] at hL
    exact lineEnd_ok hr.out.symm ⟨mb, ma, _, vv, wv, hL⟩ hB12.out
  change ∀ l : RelW (Below (z + 1)) w6, (Instr.lookup 43 (.map (some ma)) (.string (str y1)) true).run Tryd.prog l.w = .ok (.tuple #[.int .i64 (j1 : Int), .bool true]) l.w at lk
  refine wpX_seg (Below (z + 1)) 0 12 (fuel := 0) (by as_aux_lemma => kernel_rfl) (fun d _ _ _ _ h => by cases d <;> exact h) (by as_aux_lemma => kernel_rfl) (by as_aux_lemma => kernel_rfl) ?_
  simp only [List.drop_zero, List.take_succ_cons, List.take_zero]
  iterate 12 (refine wpQX_step (fun K hK => ?_); go_simp; refine hK _ ?_; clear hK K)
  refine wpQF_nil ?_
  refine wpF_done (by as_aux_lemma => kernel_rfl) ?_ 0
  clear lk lx lc
  go_wp2_with fail
  refine bodyPost_ret (v := .int .i64 8) (by simp [results, Tryd.results62, go_sem]) rfl ?_
  exact lineEnd_err hr.out.symm (by decide) (by rw [hz]; exact hb6.out)
end Conf18
end Go.Proofs.YtcpokkkdmenmgaaDoor
