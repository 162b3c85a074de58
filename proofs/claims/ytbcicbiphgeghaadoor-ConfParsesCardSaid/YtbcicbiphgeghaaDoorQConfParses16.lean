/- conf, the law: node: a line of 5 words, of kind 4. Conditions: words of at most 2^16 bytes. -/
import Derived.Test.YtbcicbiphgeghaaDoorQConfParses15
import Derived.Test.YtbcicbiphgeghaaDoorQConfParses13
import Derived.Test.YtbcicbiphgeghaaDoorQConfParses14
namespace Go.Proofs.YtbcicbiphgeghaaDoor
open Go.RowKit Go.ChangeShapes Go.WideShapes Go.ChangeAt Go.Deep
namespace Conf18
open Addr05
set_option maxRecDepth 20000 in
set_option maxHeartbeats 16000000 in
theorem lnode54_any (y0 y1 y2 y3 y4 : List UInt8) (c : Cfg) (w : World) (base x b off cap : Nat) (hb : b < base) (c0 : w.cell? ⟨b, off, none⟩ = some (.string (str y0))) (c1 : w.cell? ⟨b, off + 1, none⟩ = some (.string (str y1))) (c2 : w.cell? ⟨b, off + 2, none⟩ = some (.string (str y2))) (c3 : w.cell? ⟨b, off + 3, none⟩ = some (.string (str y3))) (c4 : w.cell? ⟨b, off + 4, none⟩ = some (.string (str y4))) (l0 : y0.length ≤ 65536) (l1 : y1.length ≤ 65536) (l2 : y2.length ≤ 65536) (l3 : y3.length ≤ 65536) (l4 : y4.length ≤ 65536) (hm : MaxAt w) (hs : c.small 4096) (hR : PlAt base x w c) :
    Calls Tryd.prog 96 #[.pointer (some ⟨x, 0, none⟩), .slice (some ⟨b, off, none⟩) 5 cap, .int .i64 4] w fun e w' => LineEnd (PlAt base x) base (nodeF 4 c [y0, y1, y2, y3, y4]) w w' e := by
  obtain ⟨r, hr⟩ : ∃ r, nodeF 4 c [y0, y1, y2, y3, y4] = r := ⟨_, rfl⟩
  rw [hr]
  unfold nodeF at hr
  rw [if_neg (by simp only [List.length_cons, List.length_nil]; decide)] at hr
  rw [show aboveF c [y0, y1, y2, y3, y4] = (atN c.nodes y2).map fun k => (k : Int) from rfl, show nadrF [y0, y1, y2, y3, y4] = parseF y4 from rfl] at hr
  have hW : weightF 4 [y0, y1, y2, y3, y4] = match lexF y3 65535 with | none => none | some v => if v = 0 ∧ 4 ≠ 4 then none else some v := rfl
  rw [hW] at hr
  clear hW
  rw [show wd [y0, y1, y2, y3, y4] 1 = y1 from rfl] at hr
  obtain ⟨mb, ma, nv, vv, wv, h⟩ := hR
  have hbx := h.cfg.hx
  have hxs := h.xlt
  obtain ⟨z, hz⟩ : ∃ z, w.heap.size = z := ⟨_, rfl⟩
  have hbz : base ≤ z := by omega
  have q3 := fun w => lexNum_any y3 (Nat.le_trans l3 (by decide)) 65535 w
  obtain ⟨o, ho⟩ : ∃ o, atN c.nodes y2 = o := ⟨_, rfl⟩
  rw [ho] at hr
  have qf2 := fun (w' : World) (hb : Below w.heap.size w w') => find_any y2 c w' base x mb ma nv vv wv (h.on hb) hs
  rw [ho] at qf2
  rw [hz] at qf2
  obtain ⟨o1, ho1⟩ : ∃ o, atN c.nodes y1 = o := ⟨_, rfl⟩
  rw [ho1] at hr
  have qf1 := fun (w' : World) (hb : Below w.heap.size w w') => find_any y1 c w' base x mb ma nv vv wv (h.on hb) hs
  rw [ho1, hz] at qf1
  replace h := hide h
  replace hr := hide hr
  replace qf1 := hide qf1
  replace ho := hide ho
  replace qf2 := hide qf2
  replace ho1 := hide ho1
  replace hm := hide hm
  replace q3 := hide q3
  go_enter Tryd.func96, Tryd.ntmps96
  go_upto_region 3 with fail
  apply wp_region_lit
  iterate 5 (refine wpList_plain rfl fun K hK => ?_; go_simp; refine hK _ _ ?_; clear hK K)
  refine wpl_new rfl rfl 148 _ (alloc_nd _ rfl) 7 rfl (.tmp 50) rfl _ (fun _ => rfl) (fun _ => rfl) rfl (by kernel_rfl) (nd_one (str y1) 4 (-1) 0 false 0 0) ?_
  intro w1 hg1 hb1 hz1
  rw [hz] at hg1 hb1 hz1
  refine wpList_nil ?_
  go_simp
  have c2b := (hb1.cell (p := ⟨b, off + 2, none⟩) (by dsimp only; omega)).trans c2
  have q2 := qf2.out w1 hb1
  clear qf2
  rcases o with _ | j
  · change Calls _ _ _ _ (fun e w' => e = .returned (.int .i64 (-1)) ∧ w' = w1) at q2
    obtain ⟨w2, hw2, hb2, hg2, hz2⟩ := loc_set (cs' := #[.string (str y1), .int .i64 4, .int .i64 (-1), .int .i64 0, .bool false, .int .u64 0, .int .u64 0]) hb1 hg1 2 (.int .i64 (-1)) rfl
    have hca := blk_cell hg1
    have hfa := blk_free hg1
    replace hz2 : z < w2.heap.size := by omega
    clear hz1
    replace hb1 := hide hb1
    replace hg1 := hide hg1
    replace hb2 := hide hb2
    replace hg2 := hide hg2
    have hgd := blk_cell hg2.out
    replace q2 := hide q2
    go_wp2_with fail
    refine (q2.out).mono ?_
    rintro e w1 ⟨rfl, rfl⟩
    go_wp2_with fail
    refine bodyPost_ret (v := .int .i64 7) (by simp [results, Tryd.results96, go_sem]) rfl ?_
    exact lineEnd_err hr.out.symm (by decide) (by rw [hz]; exact hb2.out)
  change Calls _ _ _ _ (fun e w' => e = .returned (.int .i64 (j : Int)) ∧ w' = w1) at q2
  have hr2 := hr.out
  clear hr
  dsimp only [Option.map] at hr2
  obtain ⟨w2, hw2, hb2, hg2, hz2⟩ := loc_set (cs' := #[.string (str y1), .int .i64 4, .int .i64 (j : Int), .int .i64 0, .bool false, .int .u64 0, .int .u64 0]) hb1 hg1 2 (.int .i64 (j : Int)) rfl
  have hca := blk_cell hg1
  have hfa := blk_free hg1
  replace hz2 : z < w2.heap.size := by omega
  clear hz1
  replace hb1 := hide hb1
  replace hg1 := hide hg1
  replace hb2 := hide hb2
  replace hg2 := hide hg2
  have hgd := blk_cell hg2.out
  have tj : ¬ (j : Int) < 0 := by omega
  replace q2 := hide q2
  go_wp2_with fail
  refine (q2.out).mono ?_
  rintro e w1 ⟨rfl, rfl⟩
  have c3b := (hb2.out.cell (p := ⟨b, off + 3, none⟩) (by dsimp only; omega)).trans c3
  rcases hv : lexF y3 65535 with _ | v
  · rw [hv] at hr2
    have q4 := q3.out w2
    rw [hv, lexV_none] at q4
    have hr := hide hr2
    clear hr2 hv
    replace q4 := hide q4
    go_wp2_with fail
    refine (q4.out).mono ?_
    rintro e w2 ⟨rfl, rfl⟩
    clear hca hfa hw2 hb1 hg1
    go_wp2_with fail
    refine bodyPost_ret (v := .int .i64 17) (by simp [results, Tryd.results96, go_sem]) rfl ?_
    exact lineEnd_err hr.out.symm (by decide) (by rw [hz]; exact hb2.out)
  rw [hv] at hr2
  dsimp only at hr2
  have q4 := q3.out w2
  rw [hv, lexV_some] at q4
  clear hv
  replace q4 := hide q4
  go_wp2_with fail
  refine (q4.out).mono ?_
  rintro e w2 ⟨rfl, rfl⟩
  clear hca hfa hw2 hb1 hg1
  replace hb2 := hb2.out
  replace hg2 := hg2.out
  clear hgd
  have hgc := blk_cell hg2
  rw [if_neg (fun e => e.2 rfl)] at hr2
  go_upto_region 10 with fail
  go_cut [81] from 72 to 80 (fun bv wx => bv = .bool false ∧ w2 = wx)
  case first =>
    clear hb2 hg2 hr2
    go_wp2_with fail
    all_goals
      first | (go_meet; exact ⟨rfl, rfl⟩) | ((have h0 : v = 0 := by omega); subst h0; go_meet; exact ⟨rfl, rfl⟩)
  case rest =>
  obtain ⟨rfl, rfl⟩ := hcut
  clear hgc
  obtain ⟨w3, hw3, hb3, hg3, hz3⟩ := loc_set (cs' := #[.string (str y1), .int .i64 4, .int .i64 (j : Int), .int .i64 (v : Int), .bool false, .int .u64 0, .int .u64 0]) hb2 hg2 3 (.int .i64 (v : Int)) rfl
  have hca := blk_cell hg2
  have hfa := blk_free hg2
  replace hz3 : z < w3.heap.size := by omega
  clear hz2
  replace hb2 := hide hb2
  replace hg2 := hide hg2
  replace hb3 := hide hb3
  replace hg3 := hide hg3
  have hm9 := hm.out.below (by rw [hz]; exact hb3.out)
  have c4b := (hb3.out.cell (p := ⟨b, off + 4, none⟩) (by dsimp only; omega)).trans c4
  have q5 := Parse_any y4 l4 w3 hm9
  go_upto_region 14 with fail
  clear hca hfa hw3 hb2 hg2
  replace hb3 := hb3.out
  replace hg3 := hg3.out
  rcases hp : parseF y4 with _ | ad
  · rw [hp] at q5 hr2
    have q6 : Calls Tryd.prog 81 #[.string (str y4)] w3 fun e w' => e = .returned (.tuple #[.agg #[.bool false, .int .u64 0, .int .u64 0], .int .i64 18]) ∧ Below w3.heap.size w3 w' := q5
    have hr := hide hr2
    clear hr2 q5 hp
    replace q6 := hide q6
    replace hb3 := hide hb3
    replace hg3 := hide hg3
    apply wp_region_lit
    iterate 3 (refine wpList_plain rfl fun K hK => ?_; go_simp; refine hK _ _ ?_; clear hK K)
    refine wpList_plain rfl fun K hK => ?_
    go_simp
    refine (q6.out).mono ?_
    rintro e wb ⟨rfl, hbb⟩
    go_simp
    refine hK _ _ ?_
    clear hK K
    iterate 3 (refine wpList_plain rfl fun K hK => ?_; go_simp; refine hK _ _ ?_; clear hK K)
    refine wpl_new rfl rfl 26 _ (alloc_adr _ rfl) 10 rfl (.tmp 91) rfl _ (fun _ => rfl) (fun _ => rfl) rfl (by kernel_rfl) (adr_one false 0 0) ?_
    intro wd hgd hbd hzd
    iterate 1 (refine wpList_plain rfl fun K hK => ?_; go_simp; refine hK _ _ ?_; clear hK K)
    refine wpList_nil ?_
    go_simp
    have hbe := (hb3.out.trans (hbb.mono (by omega))).trans (hbd.mono (by have := hbb.size; omega))
    clear hgd hbb hbd
    replace hbe := hide hbe
    go_wp2_with fail
    refine bodyPost_ret (v := .int .i64 18) (by simp [results, Tryd.results96, go_sem]) rfl ?_
    exact lineEnd_err hr.out.symm (by decide) (by rw [hz]; exact hbe.out)
  rw [hp] at q5 hr2
  obtain ⟨v6, hi, lo⟩ := ad
  have q6 : Calls Tryd.prog 81 #[.string (str y4)] w3 fun e w' => e = .returned (.tuple #[.agg #[.bool v6, .int .u64 (hi : Int), .int .u64 (lo : Int)], .int .i64 0]) ∧ Below w3.heap.size w3 w' := q5
  have hr := hide hr2
  clear hr2 q5 hp
  replace q6 := hide q6
  replace hb3 := hide hb3
  replace hg3 := hide hg3
  apply wp_region_lit
  iterate 3 (refine wpList_plain rfl fun K hK => ?_; go_simp; refine hK _ _ ?_; clear hK K)
  refine wpList_plain rfl fun K hK => ?_
  go_simp
  refine (q6.out).mono ?_
  rintro e wb ⟨rfl, hbb⟩
  go_simp
  refine hK _ _ ?_
  clear hK K
  iterate 3 (refine wpList_plain rfl fun K hK => ?_; go_simp; refine hK _ _ ?_; clear hK K)
  refine wpl_new rfl rfl 26 _ (alloc_adr _ rfl) 10 rfl (.tmp 91) rfl _ (fun _ => rfl) (fun _ => rfl) rfl (by kernel_rfl) (adr_one v6 (hi : Int) (lo : Int)) ?_
  intro w4 hgd hbd hzd
  iterate 1 (refine wpList_plain rfl fun K hK => ?_; go_simp; refine hK _ _ ?_; clear hK K)
  refine wpList_nil ?_
  go_simp
  have hzb := hbb.size
  have hb4 := (hb3.out.trans (hbb.mono (by omega))).trans (hbd.mono (by omega))
  have hg4 := blk_below hbd (by omega) (blk_below hbb (by omega) hg3.out)
  have hz4 : z < w4.heap.size := by omega
  have hgl := blk_cell hgd
  clear hgd hbb hbd hb3 hg3 q6 hm9
  obtain ⟨w5, hw5, hb5, hg5, hz5⟩ := loc_set (cs' := #[.string (str y1), .int .i64 4, .int .i64 (j : Int), .int .i64 (v : Int), .bool v6, .int .u64 0, .int .u64 0]) hb4 hg4 4 (.bool v6) rfl
  have hca0 := blk_cell hg4 4
  have hfa0 := blk_free hg4 4
  obtain ⟨w6, hw6, hb6, hg6, hz6⟩ := loc_set (cs' := #[.string (str y1), .int .i64 4, .int .i64 (j : Int), .int .i64 (v : Int), .bool v6, .int .u64 (hi : Int), .int .u64 0]) hb5 hg5 5 (.int .u64 (hi : Int)) rfl
  have hca1 := blk_cell hg5 5
  have hfa1 := blk_free hg5 5
  obtain ⟨w7, hw7, hb7, hg7, hz7⟩ := loc_set (cs' := #[.string (str y1), .int .i64 4, .int .i64 (j : Int), .int .i64 (v : Int), .bool v6, .int .u64 (hi : Int), .int .u64 (lo : Int)]) hb6 hg6 6 (.int .u64 (lo : Int)) rfl
  have hca2 := blk_cell hg6 6
  have hfa2 := blk_free hg6 6
  replace hz7 : z < w7.heap.size := by omega
  clear hz6 hz5 hz4
  replace hb7 := hide hb7
  replace hg7 := hide hg7
  go_upto_region 18 with fail
  clear hca0 hfa0 hca1 hfa1 hca2 hfa2 hw7 hw6 hw5 hb6 hb5 hb4 hg6 hg5 hg4 hgl
  replace hb7 := hb7.out
  replace hg7 := hg7.out
  have kz : w7.cell? ⟨z, 0, none⟩ = some (.string (str y1)) := blk_cell hg7 0
  have q1 := qf1.out w7 hb7
  clear qf1
  replace hb7 := hide hb7
  replace hg7 := hide hg7
  rcases o1 with _ | j1
  · change Calls _ _ _ _ (fun e w' => e = .returned (.int .i64 (-1)) ∧ w' = w7) at q1
    replace q1 := hide q1
    go_wp2_with fail
    refine (q1.out).mono ?_
    rintro e w7 ⟨rfl, rfl⟩
    go_upto_region 20 with fail
    clear kz q1
    have hN := h.out.on (by rw [hz]; exact hb7.out)
    have hbb := hb7.out.mono hbz
    have hrx := row_not_x hN.cfg.nodes hN.cfg.blk hN.cfg.hT.1
    have hrz : nv.ownBlock = some z → False := fun e => by have := (World.ownsRow.lt h.out.cfg.nodes _ e).2; omega
    refine wp_region_Y [12] (KeptS w7.heap.size (fun k => nv.ownBlock = some k)) (by as_aux_lemma => kernel_rfl) ?_
    intro w8 hbd
    have hN8 := hN.on hbd
    have hge := blk_below hbd hz7 hg7.out
    have hbe := hbb.trans (hbd.mono (by omega))
    have ze := hbd.size
    have lx := fun l : RelW (KeptS w7.heap.size (fun k => nv.ownBlock = some k)) w8 => (show l.w.cell? ⟨x, 0, none⟩ = some nv from blk_cell ((l.hk.block x hN.xlt (by rcases hrx with e | e <;> (intro e2; first | (rw [e] at e2; cases e2) | exact e e2))).trans hN8.cfg.blk) 0)
    have lz := fun l : RelW (KeptS w7.heap.size (fun k => nv.ownBlock = some k)) w8 => blk_cell ((l.hk.block z hz7 hrz).trans hge)
    clear hN hg7 hbb hbd hrx hrz
    replace hN8 := hide hN8
    replace hbe := hide hbe
    refine wpY_seg [12] (KeptS w7.heap.size (fun k => nv.ownBlock = some k)) 0 7 (fuel := 6) (by as_aux_lemma => kernel_rfl) (fun d _ _ _ _ h => by cases d <;> exact h) (by as_aux_lemma => kernel_rfl) (by as_aux_lemma => kernel_rfl) (by as_aux_lemma => kernel_rfl) ?_
    simp only [List.drop_zero, List.take_succ_cons, List.take_zero]
    iterate 7 (refine wpQX_step (fun K hK => ?_); go_simp; refine hK _ ?_; clear hK K)
    refine wpQF_nil ?_
    clear lx lz hge
    obtain ⟨ND, hND⟩ : ∃ ND : Nd, ND = ⟨y1, 4, (j : Int), (v : Int), ⟨v6, hi, lo⟩⟩ := ⟨_, rfl⟩
    have hC : ndC ND = [.string (str y1), .int .i64 4, .int .i64 (j : Int), .int .i64 (v : Int), .bool v6, .int .u64 (hi : Int), .int .u64 (lo : Int)] := by rw [hND]; rfl
    refine wpW_step 7 rfl (by as_aux_lemma => kernel_rfl) (fun K hK => ?_)
    go_simp
    refine hK _ _ (relY_of (keptS_of_below ((Below.refl _ _).alloc (Nat.le_refl _) _) ze)) ?_
    clear hK K
    obtain ⟨wt, hwt⟩ : ∃ wt, w8.alloc (.cells (ndC ND).toArray 148) = wt := ⟨_, rfl⟩
    have hbt : Below w8.heap.size w8 wt := hwt ▸ (Below.refl _ _).alloc (Nat.le_refl _) _
    have hnt : wt.heap[w8.heap.size]? = some (.cells (ndC ND).toArray 148 (0, 0)) := hwt ▸ blk_new _ _ _
    rw [hC] at hwt
    change wpW _ _ _ _ _ _ _ _ (w8.alloc (.cells ([.string (str y1), .int .i64 4, .int .i64 (j : Int), .int .i64 (v : Int), .bool v6, .int .u64 (hi : Int), .int .u64 (lo : Int)]).toArray 148))
    rw [hwt]
    have hNt := hN8.out.on hbt
    have hbf := hbe.out.trans (hbt.mono (by omega))
    have zt := hbt.size
    clear hwt hbt hN8 hbe
    refine wpW_step 8 rfl (by as_aux_lemma => kernel_rfl) (fun K hK => ?_)
    rw [if_pos (by unfold Region.wanted; rfl)]
    refine wp_app_c (T := 148) Tryd.underlying68 info_nd rfl (by decide) (by decide) (.tmp 108) (.tmp 110) rfl base _ c.nodes.length _ (ndC ND) w8.heap.size rfl rfl hNt.cfg.nodes hnt rfl (ndC_one _) (by omega) (by have := hs.1; omega) fun v11 w11 h1 h2 => hK _ _ (relY_of ⟨h2.grown.os, h2.grown.tape, h2.grown.output, h2.grown.size, fun k hk hne => h2.grown.block k (by omega) (fun e => hne e.symm)⟩) ?_
    clear hK K hnt
    obtain ⟨A11, c11, hv11, -, -, -⟩ := own_isv h1
    subst hv11
    obtain ⟨hx11, hL12⟩ := hNt.pushN h1 h2
    have hB11 := hbf.trans (below_of_grown h2.grown (by omega) (fun k hk => (World.ownsRow.lt hNt.cfg.nodes _ hk).1))
    have hB12 : Below base w (w11.setCell ⟨x, 0, none⟩ (.slice A11 (c.nodes.length + 1) c11)) := hB11.setCell (p := ⟨x, 0, none⟩) hbx _
    have hc : w11.cell? ⟨x, 0, none⟩ = some nv := blk_cell hx11 0
    have hf := blk_free hx11 0
    clear h1 h2 hNt hbf hB11 hx11
    obtain ⟨w12, hw12⟩ : ∃ w12, w11.setCell ⟨x, 0, none⟩ (.slice A11 (c.nodes.length + 1) c11) = w12 := ⟨_, rfl⟩
    rw [hw12] at hL12 hB12
    replace hL12 := hide hL12
    replace hB12 := hide hB12
    replace hND := hide hND
    replace hC := hide hC
    refine wpW_step 9 rfl (by as_aux_lemma => kernel_rfl) (fun K hK => ?_)
    go_simp
    refine hK _ _ (relY_of (IsRel.refl _)) ?_
    clear hK K
    refine wpW_step 10 rfl (by as_aux_lemma => kernel_rfl) (fun K hK => ?_)
    go_simp
    refine hK _ _ (relY_of (IsRel.refl _)) ?_
    clear hK K
    refine wpW_step 11 rfl (by as_aux_lemma => kernel_rfl) (fun K hK => ?_)
    go_simp
    refine hK _ _ (relY_of (IsRel.refl _)) ?_
    clear hK K
    refine wpW_step 12 rfl (by as_aux_lemma => kernel_rfl) (fun K hK => ?_)
    go_simp
    refine hK _ _ (relY_wr (by as_aux_lemma => kernel_rfl)) ?_
    clear hK K hc hf hw12
    refine wpW_done (by as_aux_lemma => kernel_rfl) ?_ _
    go_wp2_with fail
    refine bodyPost_ret (v := .int .i64 0) (by simp [results, Tryd.results96, go_sem]) rfl ?_
    have hL := hL12.out
    rw [hND.out] at hL
    exact lineEnd_ok hr.out.symm ⟨mb, ma, _, vv, wv, hL⟩ hB12.out
  change Calls _ _ _ _ (fun e w' => e = .returned (.int .i64 (j1 : Int)) ∧ w' = w7) at q1
  have tj1 : (0 : Int) ≤ (j1 : Int) := by omega
  replace q1 := hide q1
  go_wp2_with fail
  refine (q1.out).mono ?_
  rintro e w7 ⟨rfl, rfl⟩
  go_wp2_with fail
  refine bodyPost_ret (v := .int .i64 8) (by simp [results, Tryd.results96, go_sem]) rfl ?_
  exact lineEnd_err hr.out.symm (by decide) (by rw [hz]; exact hb7.out)
end Conf18
end Go.Proofs.YtbcicbiphgeghaaDoor
/- conf, the law: vip: a line that says which address is balanced. Conditions: words of at most 2^16 bytes. -/
namespace Go.Proofs.YtbcicbiphgeghaaDoor
open Go.RowKit Go.ChangeShapes Go.WideShapes Go.ChangeAt Go.Deep
namespace Conf18
open Addr05
set_option maxRecDepth 20000 in
set_option maxHeartbeats 16000000 in
theorem lvip_any (ws : List (List UInt8)) (c : Cfg) (w : World) (base x cap : Nat) (A : Option Addr) (hx : IsR strv w base A ws.length ws) (hnb : ws.length < 4611686018427387904) (hl : ∀ y ∈ ws, y.length ≤ 65536) (hm : MaxAt w) (hs : c.small 4096) (hR : PlAt base x w c) :
    Calls Tryd.prog 97 #[.pointer (some ⟨x, 0, none⟩), .slice A ws.length cap] w fun e w' => LineEnd (PlAt base x) base (vipF c ws) w w' e := by
  obtain ⟨r, hr⟩ : ∃ r, vipF c ws = r := ⟨_, rfl⟩
  rw [hr]
  have hlw : ∀ i, (wd ws i).length ≤ 65536 := by
    intro i
    rcases Nat.lt_or_ge i ws.length with h1 | h1
    · rw [wd_get (List.getElem?_eq_getElem h1)]
      exact hl _ (List.getElem_mem h1)
    · unfold wd
      rw [List.getD_eq_getElem?_getD, List.getElem?_eq_none h1]
      exact Nat.zero_le _
  by_cases hn : ws.length < 4
  · have t : (ws.length : Int) < 4 := by omega
    unfold vipF at hr
    rw [if_pos hn] at hr
    clear hn hx hl hm hlw
    replace hR := hide hR
    replace hr := hide hr
    go_enter Tryd.func97, Tryd.ntmps97
    go_wp2_with fail
    go_ret
    exact lineEnd_err hr.out.symm (by decide) (Below.refl _ _)
  unfold vipF at hr
  rw [if_neg hn] at hr
  obtain ⟨b, off, rfl, hb, hc⟩ := words_at hx (by omega)
  have c1 := hc 1 (by omega)
  have c2 := hc 2 (by omega)
  have c3 := hc 3 (by omega)
  have t : ¬ (ws.length : Int) < 4 := by omega
  have q := Parse_any (wd ws 1) (hlw 1) w hm
  have q3 := fun w => lexNum_any (wd ws 3) (Nat.le_trans (hlw 3) (by decide)) 65535 w
  obtain ⟨mb, ma, nv, vv, wv, h⟩ := hR
  have hbx := h.cfg.hx
  have hxs := h.xlt
  obtain ⟨z0, hz0⟩ : ∃ z, w.heap.size = z := ⟨_, rfl⟩
  have hbz : base ≤ z0 := by omega
  obtain ⟨n, hnl⟩ : ∃ n, ws.length = n := ⟨_, rfl⟩
  rw [hnl] at hn t hc hnb ⊢
  have n1 : (1 : Int) < (n : Int) := by omega
  have n2 : (2 : Int) < (n : Int) := by omega
  have n3 : (3 : Int) < (n : Int) := by omega
  have n4 : (4 : Int) ≤ (n : Int) := by omega
  clear hx hl hm hn
  rcases hp : parseF (wd ws 1) with _ | ad
  · rw [hp] at hr q
    have q1 : Calls Tryd.prog 81 #[.string (str (wd ws 1))] w fun e w' => e = .returned (.tuple #[.agg #[.bool false, .int .u64 0, .int .u64 0], .int .i64 18]) ∧ Below w.heap.size w w' := q
    clear q
    replace h := hide h
    replace hr := hide hr
    replace q1 := hide q1
    replace q3 := hide q3
    replace hp := hide hp
    replace hlw := hide hlw
    replace hnl := hide hnl
    replace hc := hide hc
    go_enter Tryd.func97, Tryd.ntmps97
    go_upto_region 3 with fail
    apply wp_region_lit
    iterate 3 (refine wpList_plain rfl fun K hK => ?_; go_simp; refine hK _ _ ?_; clear hK K)
    refine wpList_plain rfl fun K hK => ?_
    go_simp
    refine (q1.out).mono ?_
    rintro e w1 ⟨rfl, hb1⟩
    go_simp
    refine hK _ _ ?_
    clear hK K
    iterate 3 (refine wpList_plain rfl fun K hK => ?_; go_simp; refine hK _ _ ?_; clear hK K)
    refine wpl_new rfl rfl 26 _ (alloc_adr _ rfl) 5 rfl (.tmp 21) rfl _ (fun _ => rfl) (fun _ => rfl) rfl (by kernel_rfl) (adr_one false 0 0) ?_
    intro w2 hg2 hb2 hz2
    iterate 1 (refine wpList_plain rfl fun K hK => ?_; go_simp; refine hK _ _ ?_; clear hK K)
    refine wpList_nil ?_
    go_simp
    have hb3 := hb1.trans (hb2.mono (by have := hb1.size; omega))
    clear hg2 hb1 hb2
    replace hb3 := hide hb3
    go_wp2_with fail
    refine bodyPost_ret (v := .int .i64 18) (by simp [results, Tryd.results97, go_sem]) rfl ?_
    exact lineEnd_err hr.out.symm (by decide) hb3.out
  rw [hp] at hr q
  obtain ⟨v6, hi, lo⟩ := ad
  have q1 : Calls Tryd.prog 81 #[.string (str (wd ws 1))] w fun e w' => e = .returned (.tuple #[.agg #[.bool v6, .int .u64 (hi : Int), .int .u64 (lo : Int)], .int .i64 0]) ∧ Below w.heap.size w w' := q
  clear q
  dsimp only at hr
  obtain ⟨o3, ho3⟩ : ∃ o, lexF (wd ws 3) 65535 = o := ⟨_, rfl⟩
  rw [ho3] at hr q3
  replace h := hide h
  replace hr := hide hr
  replace q1 := hide q1
  replace q3 := hide q3
  replace hp := hide hp
  replace hlw := hide hlw
  replace hnl := hide hnl
  replace ho3 := hide ho3
  replace hc := hide hc
  go_enter Tryd.func97, Tryd.ntmps97
  go_upto_region 3 with fail
  apply wp_region_lit
  iterate 3 (refine wpList_plain rfl fun K hK => ?_; go_simp; refine hK _ _ ?_; clear hK K)
  refine wpList_plain rfl fun K hK => ?_
  go_simp
  refine (q1.out).mono ?_
  rintro e w1 ⟨rfl, hb1⟩
  go_simp
  refine hK _ _ ?_
  clear hK K
  iterate 3 (refine wpList_plain rfl fun K hK => ?_; go_simp; refine hK _ _ ?_; clear hK K)
  refine wpl_new rfl rfl 26 _ (alloc_adr _ rfl) 5 rfl (.tmp 21) rfl _ (fun _ => rfl) (fun _ => rfl) rfl (by kernel_rfl) (adr_one v6 (hi : Int) (lo : Int)) ?_
  intro w2 hg2 hb2 hz2
  iterate 1 (refine wpList_plain rfl fun K hK => ?_; go_simp; refine hK _ _ ?_; clear hK K)
  refine wpList_nil ?_
  go_simp
  rw [hz0] at hb1
  have hz1 := hb1.size
  have hb3 := hb1.trans (hb2.mono (by omega))
  have c2b := (hb3.cell (p := ⟨b, off + 2, none⟩) (by dsimp only; omega)).trans c2
  have c3b := (hb3.cell (p := ⟨b, off + 3, none⟩) (by dsimp only; omega)).trans c3
  clear hb1 hb2 q1
  replace hb3 := hide hb3
  replace hg2 := hide hg2
  have q4 := q3.out w2
  clear q3
  unfold lexV at q4
  obtain ⟨PV, hPV⟩ : ∃ v, o3.getD 0 = v := ⟨_, rfl⟩
  obtain ⟨OK, hOK⟩ : ∃ v, o3.isSome = v := ⟨_, rfl⟩
  rw [hPV, hOK] at q4
  replace q4 := hide q4
  replace hPV := hide hPV
  replace hOK := hide hOK
  go_wp2_with fail
  refine (q4.out).mono ?_
  rintro e w2 ⟨rfl, rfl⟩
  go_upto_region 7 with fail
  apply wp_region_lit
  have la := blk_cell hg2.out
  iterate 3 (refine wpList_plain rfl fun K hK => ?_; go_simp; refine hK _ _ ?_; clear hK K)
  refine wpl_new rfl rfl 150 _ (alloc_vp _ rfl) 9 rfl (.tmp 35) rfl _ (fun _ => rfl) (fun _ => rfl) rfl (by kernel_rfl) (vp_one v6 (hi : Int) (lo : Int) 6 (PV : Int) 1 false) ?_
  intro w8 hg8 hb8 hz8
  refine wpList_nil ?_
  go_simp
  obtain ⟨zv, hzv⟩ : ∃ zv, w2.heap.size = zv := ⟨_, rfl⟩
  rw [hzv] at hg8 hb8 hz8
  have hb8' := hb3.out.trans (hb8.mono (by omega))
  have h9 := h
  have c2d := (hb8'.cell (p := ⟨b, off + 2, none⟩) (by dsimp only; omega)).trans c2
  have tu := eqw (wd ws 2) [117, 100, 112]
  have tt := eqw (wd ws 2) [116, 99, 112]
  obtain ⟨BU, hBU⟩ : ∃ B, decide (wd ws 2 = [117, 100, 112]) = B := ⟨_, rfl⟩
  obtain ⟨BT, hBT⟩ : ∃ B, decide (wd ws 2 = [116, 99, 112]) = B := ⟨_, rfl⟩
  rw [hBU] at tu
  rw [hBT] at tt
  obtain ⟨P9, hP9⟩ : ∃ P : Nat, (if BU = true then 17 else 6) = P := ⟨_, rfl⟩
  have hbz2 : z0 ≤ zv := by omega
  clear la hg2 hb3 hb8 q4 h c1 c3 c2b c3b c2
  rw [hzv]
  replace hb8' := hide hb8'
  replace hg8 := hide hg8
  replace hBU := hide hBU
  replace hBT := hide hBT
  replace hP9 := hide hP9
  go_upto_if 39 with fail
  go_cut [] (fun wx => wx.heap[zv]? = some (.cells #[.bool v6, .int .u64 (hi : Int), .int .u64 (lo : Int), .int .i64 (P9 : Int), .int .i64 (PV : Int), .int .i64 1, .bool false] 150 (0, 0)) ∧ Below z0 w wx)
  case first =>
    cases BU
    · obtain rfl : 6 = P9 := hP9.out
      go_wp2_with fail
      go_meet
      exact ⟨hg8.out, hb8'.out⟩
    · obtain rfl : 17 = P9 := hP9.out
      obtain ⟨w6, hw6⟩ : ∃ w6, w8.setCell ⟨zv, 3, none⟩ (.int .i64 17) = w6 := ⟨_, rfl⟩
      have hg6 : w6.heap[zv]? = some (.cells #[.bool v6, .int .u64 (hi : Int), .int .u64 (lo : Int), .int .i64 17, .int .i64 (PV : Int), .int .i64 1, .bool false] 150 (0, 0)) := hw6 ▸ blk_set hg8.out 3 _
      have hb6 : Below z0 w w6 := hw6 ▸ hb8'.out.setCell (p := ⟨zv, 3, none⟩) hbz2 _
      have hca := blk_cell hg8.out 3
      have hfa := blk_free hg8.out 3
      replace hg6 := hide hg6
      replace hb6 := hide hb6
      go_wp2_with fail
      go_meet
      exact ⟨hg6.out, hb6.out⟩
  case rest =>
  obtain ⟨hg9, hb9⟩ := hcut
  have hz9 := lt_of_blk hg9
  have c2e := (hb9.cell (p := ⟨b, off + 2, none⟩) (by dsimp only; omega)).trans (hc.out 2 (by omega))
  clear hg8 hb8' c2d hz8
  replace hg9 := hide hg9
  replace hb9 := hide hb9
  obtain ⟨EB, hEB⟩ : ∃ B, (!OK || (!BU && !BT)) = B := ⟨_, rfl⟩
  go_upto_region 10 with fail
  go_cut [54] (fun bv wx => bv = .bool EB ∧ wc = wx)
  case first =>
    cases OK
    · obtain rfl : true = EB := hEB
      go_wp2_with fail
      go_meet
      exact ⟨rfl, rfl⟩
    · cases BU
      · cases BT
        · obtain rfl : true = EB := hEB
          go_wp2_with fail
          go_meet
          exact ⟨rfl, rfl⟩
        · obtain rfl : false = EB := hEB
          go_wp2_with fail
          go_meet
          exact ⟨rfl, rfl⟩
      · obtain rfl : false = EB := hEB
        go_wp2_with fail
        go_meet
        exact ⟨rfl, rfl⟩
  case rest =>
  obtain ⟨rfl, rfl⟩ := hcut
  clear c2e tu tt
  have hpf : protoF (wd ws 2) = if BU = true then 17 else if BT = true then 6 else 0 := by
    rw [← hBU.out, ← hBT.out]
    unfold protoF wTcp wUdp
    by_cases h1 : wd ws 2 = [116, 99, 112]
    · rw [if_pos h1, decide_eq_true h1, decide_eq_false (by rw [h1]; decide)]; rfl
    · rw [if_neg h1]
      by_cases h2 : wd ws 2 = [117, 100, 112]
      · rw [if_pos h2, decide_eq_true h2]; rfl
      · rw [if_neg h2, decide_eq_false h1, decide_eq_false h2]; rfl
  cases EB
  case true =>
    have hr4 : Except.error 4 = r := by
      rw [← hr.out, hpf]
      rcases o3 with _ | v
      · rfl
      · have h1 : OK = true := hOK.out.symm
        subst h1
        cases BU
        · cases BT
          · rfl
          · cases hEB
        · cases hEB
    clear hr hpf
    replace hr4 := hide hr4
    go_wp2_with fail
    refine bodyPost_ret (v := .int .i64 4) (by simp [results, Tryd.results97, go_sem]) rfl ?_
    exact lineEnd_err hr4.out.symm (by decide) (by rw [hz0]; exact hb9.out)
  case false =>
  have ho4 : o3 = some PV := by
    rcases o3 with _ | v
    · have h1 : OK = false := hOK.out.symm
      subst h1
      cases hEB
    · have := hPV.out; exact congrArg some this
  subst ho4
  have hp9 : protoF (wd ws 2) = P9 ∧ P9 ≠ 0 := by
    have h1 : OK = true := hOK.out.symm
    subst h1
    rw [hpf, ← hP9.out]
    cases BU
    · cases BT
      · cases hEB
      · exact ⟨rfl, by decide⟩
    · exact ⟨rfl, by decide⟩
  have hr4 := hr.out
  dsimp only at hr4
  rw [hp9.1, if_neg hp9.2] at hr4
  clear hr hpf hp9 hEB hBU hBT hP9
  obtain ⟨p, rfl⟩ : ∃ p, p = P9 := ⟨_, rfl⟩
  have hR0 : ∀ i, wd (ws.drop 4) i = wd ws (4 + i) := by
    intro i
    unfold wd
    rw [List.getD_eq_getElem?_getD, List.getElem?_drop, ← List.getD_eq_getElem?_getD]
  have hRl : (ws.drop 4).length = n - 4 := by rw [List.length_drop, hnl.out]
  obtain ⟨R, hRd⟩ : ∃ R, List.drop 4 ws = R := ⟨_, rfl⟩
  rw [hRd] at hr4 hR0 hRl
  replace hR0 := hide hR0
  replace hRl := hide hRl
  replace hr4 := hide hr4
  replace hRd := hide hRd
  obtain ⟨B1, hB1⟩ : ∃ B, decide (5 < n ∧ wd ws 4 = wCopies) = B := ⟨_, rfl⟩
  go_upto_region 13 with fail
  go_cut [63] (fun bv wx => bv = .bool B1 ∧ wc = wx)
  case first =>
    by_cases h1 : 5 < n
    · have d0 := (hb9.out.cell (p := ⟨b, off + 4, none⟩) (by dsimp only; omega)).trans (hc.out 4 (by omega))
      have te := eqw (wd ws 4) [99, 111, 112, 105, 101, 115]
      have hB2 : decide (wd ws 4 = [99, 111, 112, 105, 101, 115]) = B1 := by
        rw [← hB1]
        apply Bool.eq_iff_iff.2
        simp only [decide_eq_true_iff]
        exact ⟨fun e => ⟨h1, e⟩, fun e => e.2⟩
      rw [hB2] at te
      have t1 : (5 : Int) < (n : Int) := by omega
      have t0 : (4 : Int) < (n : Int) := by omega
      clear hB2 hB1
      go_wp2_with fail
      go_meet
      exact ⟨rfl, rfl⟩
    · have hB2 : B1 = false := by
        rw [← hB1]
        exact decide_eq_false (fun e => h1 e.1)
      have t1 : ¬ (5 : Int) < (n : Int) := by omega
      subst hB2
      go_wp2_with fail
      go_meet
      exact ⟨rfl, rfl⟩
  case rest =>
  obtain ⟨rfl, rfl⟩ := hcut
  replace hB1 := hide hB1
  go_upto_if 63 with fail
  go_cut [10, 11, 12] (fun rv _ _ wx => ∃ (cp : Nat) (R2 : List (List UInt8)) (k : Nat), rv = .int .i64 (k : Int) ∧ copF R = some (cp, R2) ∧ R2 = ws.drop k ∧ wx.heap[zv]? = some (.cells #[.bool v6, .int .u64 (hi : Int), .int .u64 (lo : Int), .int .i64 (p : Int), .int .i64 (PV : Int), .int .i64 (cp : Int), .bool false] 150 (0, 0)) ∧ Below z0 w wx)
  case first =>
    cases B1
    · have hC : copF R = some (1, R) := by
        have h1 := of_decide_eq_false hB1.out
        unfold copF
        rw [if_neg (by rw [hRl.out, hR0.out 0]; exact fun e => h1 ⟨by omega, e.2⟩)]
      go_wp2_with fail
      go_meet
      exact ⟨1, R, 4, rfl, hC, hRd.out.symm, hg9.out, hb9.out⟩
    · obtain ⟨h1, hw0⟩ := of_decide_eq_true hB1.out
      have hC : copF R = (match lexF (wd R 1) 8 with
          | none => none
          | some n => if n < 2 then none else some (n, R.drop 2)) := by
        unfold copF
        rw [if_pos (by rw [hRl.out, hR0.out 0]; exact ⟨by omega, hw0⟩)]
        rfl
      rw [hR0.out 1] at hC
      have d1 := (hb9.out.cell (p := ⟨b, off + 5, none⟩) (by dsimp only; omega)).trans (hc.out 5 h1)
      have t1 : (5 : Int) < (n : Int) := by omega
      have q5 := lexNum_any (wd ws 5) (Nat.le_trans (hlw.out 5) (by decide)) 8 wc
      have hr5 := hr4.out
      rw [hC] at hr5
      clear hr4
      replace hC := hide hC
      rcases hq : lexF (wd ws 5) 8 with _ | cp
      · rw [hq] at hr5 q5
        rw [lexV_none] at q5
        replace q5 := hide q5
        replace hr5 := hide hr5
        replace hq := hide hq
        go_wp2_with fail
        refine (q5.out).mono ?_
        rintro e wc ⟨rfl, rfl⟩
        go_wp2_with fail
        refine bodyPost_ret (v := .int .i64 5) (by simp [results, Tryd.results97, go_sem]) rfl ?_
        exact lineEnd_err hr5.out.symm (by decide) (by rw [hz0]; exact hb9.out)
      · rw [hq] at hr5 q5
        rw [lexV_some] at q5
        dsimp only at hr5
        by_cases h2 : cp < 2
        · rw [if_pos h2] at hr5
          have t3 : (cp : Int) < 2 := by omega
          replace q5 := hide q5
          replace hr5 := hide hr5
          replace hq := hide hq
          go_wp2_with fail
          refine (q5.out).mono ?_
          rintro e wc ⟨rfl, rfl⟩
          go_wp2_with fail
          refine bodyPost_ret (v := .int .i64 5) (by simp [results, Tryd.results97, go_sem]) rfl ?_
          exact lineEnd_err hr5.out.symm (by decide) (by rw [hz0]; exact hb9.out)
        · have hC2 : copF R = some (cp, R.drop 2) := by
            rw [hC.out, hq]
            exact if_neg h2
          have hR2 : R.drop 2 = ws.drop 6 := by rw [← hRd.out, List.drop_drop]
          have t3 : ¬ (cp : Int) < 2 := by omega
          clear hr5 hC
          obtain ⟨w6, hw6⟩ : ∃ w6, wc.setCell ⟨zv, 5, none⟩ (.int .i64 (cp : Int)) = w6 := ⟨_, rfl⟩
          have hg6 : w6.heap[zv]? = some (.cells #[.bool v6, .int .u64 (hi : Int), .int .u64 (lo : Int), .int .i64 (p : Int), .int .i64 (PV : Int), .int .i64 (cp : Int), .bool false] 150 (0, 0)) := hw6 ▸ blk_set hg9.out 5 _
          have hb6 : Below z0 w w6 := hw6 ▸ hb9.out.setCell (p := ⟨zv, 5, none⟩) hbz2 _
          have hca := blk_cell hg9.out 5
          have hfa := blk_free hg9.out 5
          replace hC2 := hide hC2
          replace hR2 := hide hR2
          replace q5 := hide q5
          replace hq := hide hq
          replace hg6 := hide hg6
          replace hb6 := hide hb6
          go_wp2_with fail
          refine (q5.out).mono ?_
          rintro e wc ⟨rfl, rfl⟩
          go_wp2_with fail
          go_meet
          exact ⟨cp, R.drop 2, 6, rfl, hC2.out, hR2.out, hg6.out, hb6.out⟩
  case rest =>
  obtain ⟨cp, R2, k, rfl, hC, hRk, hgc, hbc⟩ := hcut
  have hr5 := hr4.out
  rw [hC] at hr5
  dsimp only at hr5
  have hl2 : R2.length = n - k := by rw [hRk, List.length_drop, hnl.out]
  have h20 : wd R2 0 = wd ws k := by
    rw [hRk]
    unfold wd
    rw [List.getD_eq_getElem?_getD, List.getElem?_drop, ← List.getD_eq_getElem?_getD, Nat.add_zero]
  clear hg9 hb9 hr4 hB1 hC hz9
  have hzc := lt_of_blk hgc
  replace hgc := hide hgc
  replace hbc := hide hbc
  replace hr5 := hide hr5
  replace hl2 := hide hl2
  replace h20 := hide h20
  replace hRk := hide hRk
  go_upto_region 19 with fail
  obtain ⟨B3, hB3⟩ : ∃ B, decide (k < n ∧ wd ws k = wNat) = B := ⟨_, rfl⟩
  go_cut [89] (fun bv wx => bv = .bool B3 ∧ wc = wx)
  case first =>
    by_cases h1 : k < n
    · have d0 := (hbc.out.cell (p := ⟨b, off + k, none⟩) (by dsimp only; omega)).trans (hc.out k h1)
      have te := eqw (wd ws k) [110, 97, 116]
      have hB2 : decide (wd ws k = [110, 97, 116]) = B3 := by
        rw [← hB3]
        apply Bool.eq_iff_iff.2
        simp only [decide_eq_true_iff]
        exact ⟨fun e => ⟨h1, e⟩, fun e => e.2⟩
      rw [hB2] at te
      have t0 : (k : Int) < (n : Int) := by omega
      clear hB2 hB3
      go_wp2_with fail
      go_meet
      exact ⟨rfl, rfl⟩
    · have hB2 : B3 = false := by
        rw [← hB3]
        exact decide_eq_false (fun e => h1 e.1)
      have t1 : ¬ (k : Int) < (n : Int) := by omega
      subst hB2
      go_wp2_with fail
      go_meet
      exact ⟨rfl, rfl⟩
  case rest =>
  obtain ⟨rfl, rfl⟩ := hcut
  replace hB3 := hide hB3
  go_upto_if 89 with fail
  go_cut [10] (fun rv wx => ∃ (nt : Bool) (R3 : List (List UInt8)) (k3 : Nat), rv = .int .i64 (k3 : Int) ∧ natF R2 = (nt, R3) ∧ R3.length = n - k3 ∧ wx.heap[zv]? = some (.cells #[.bool v6, .int .u64 (hi : Int), .int .u64 (lo : Int), .int .i64 (p : Int), .int .i64 (PV : Int), .int .i64 (cp : Int), .bool nt] 150 (0, 0)) ∧ Below z0 w wx)
  case first =>
    cases B3
    · have hN : natF R2 = (false, R2) := by
        have h1 := of_decide_eq_false hB3.out
        unfold natF
        rw [if_neg (by rw [hl2.out, h20.out]; exact fun e => h1 ⟨by omega, e.2⟩)]
      go_wp2_with fail
      go_meet
      exact ⟨false, R2, k, rfl, hN, hl2.out, hgc.out, hbc.out⟩
    · obtain ⟨h1, hw0⟩ := of_decide_eq_true hB3.out
      have hN : natF R2 = (true, R2.drop 1) := by
        unfold natF
        rw [if_pos (by rw [hl2.out, h20.out]; exact ⟨by omega, hw0⟩)]
      have hl3 : (R2.drop 1).length = n - (k + 1) := by rw [List.length_drop, hl2.out]; omega
      have hnm := hnl.out
      have hlt62 : n < 4611686018427387904 := hnb
      have wk1 : IntKind.i64.wrap ((k : Int) + 1) = ((k + 1 : Nat) : Int) := by rw [wraps62 _ (by omega) (by omega)]; omega
      obtain ⟨w6, hw6⟩ : ∃ w6, wc.setCell ⟨zv, 6, none⟩ (.bool true) = w6 := ⟨_, rfl⟩
      have hg6 : w6.heap[zv]? = some (.cells #[.bool v6, .int .u64 (hi : Int), .int .u64 (lo : Int), .int .i64 (p : Int), .int .i64 (PV : Int), .int .i64 (cp : Int), .bool true] 150 (0, 0)) := hw6 ▸ blk_set hgc.out 6 _
      have hb6 : Below z0 w w6 := hw6 ▸ hbc.out.setCell (p := ⟨zv, 6, none⟩) hbz2 _
      have hca := blk_cell hgc.out 6
      have hfa := blk_free hgc.out 6
      replace hN := hide hN
      replace hl3 := hide hl3
      replace hg6 := hide hg6
      replace hb6 := hide hb6
      replace hnm := hide hnm
      go_wp2_with fail
      go_meet
      exact ⟨true, R2.drop 1, k + 1, by first | rfl | go_num, hN.out, hl3.out, hg6.out, hb6.out⟩
  case rest =>
  obtain ⟨nt, R3, k3, rfl, hN, hR3, hgn, hbn⟩ := hcut
  have hr6 := hr5.out
  rw [hN] at hr6
  dsimp only at hr6
  rw [hR3] at hr6
  clear hgc hbc hr5 hB3 hN
  have hzn := lt_of_blk hgn
  by_cases hm0 : k3 < n
  · rw [if_pos (by omega)] at hr6
    have t1 : (k3 : Int) < (n : Int) := by omega
    clear hgn
    replace hbn := hide hbn
    replace hr6 := hide hr6
    go_wp2_with fail
    refine bodyPost_ret (v := .int .i64 4) (by simp [results, Tryd.results97, go_sem]) rfl ?_
    exact lineEnd_err hr6.out.symm (by decide) (by rw [hz0]; exact hbn.out)
  rw [if_neg (by omega)] at hr6
  have t1 : ¬ (k3 : Int) < (n : Int) := by omega
  have h2 := h9.out.on (by rw [hz0]; exact hbn)
  replace hgn := hide hgn
  replace hbn := hide hbn
  replace hr6 := hide hr6
  replace h2 := hide h2
  go_upto_region 24 with fail
  have hrx := row_not_x h2.out.cfg.vips h2.out.cfg.blk h2.out.cfg.hT.2.1
  have hrz : vv.ownBlock = some zv → False := fun e => by have := (World.ownsRow.lt h9.out.cfg.vips _ e).2; omega
  refine wp_region_Y [12] (KeptS wc.heap.size (fun k => vv.ownBlock = some k)) (by as_aux_lemma => kernel_rfl) ?_
  intro we hbe
  have hLe := h2.out.on hbe
  have hge := blk_below hbe hzn hgn.out
  have hBe := (hbn.out.mono hbz).trans (hbe.mono (by have := hbn.out.size; omega))
  have ze := hbe.size
  have lx := fun l : RelW (KeptS wc.heap.size (fun k => vv.ownBlock = some k)) we => (show l.w.cell? ⟨x, 1, none⟩ = some vv from blk_cell ((l.hk.block x h2.out.xlt (by rcases hrx with e | e <;> (intro e2; first | (rw [e] at e2; cases e2) | exact e e2))).trans hLe.cfg.blk) 1)
  have lz := fun l : RelW (KeptS wc.heap.size (fun k => vv.ownBlock = some k)) we => blk_cell ((l.hk.block zv hzn hrz).trans hge)
  clear h2 hgn hbn hbe hrx hrz
  replace hLe := hide hLe
  replace hBe := hide hBe
  refine wpY_seg [12] (KeptS wc.heap.size (fun k => vv.ownBlock = some k)) 0 7 (fuel := 6) (by as_aux_lemma => kernel_rfl) (fun d _ _ _ _ h => by cases d <;> exact h) (by as_aux_lemma => kernel_rfl) (by as_aux_lemma => kernel_rfl) (by as_aux_lemma => kernel_rfl) ?_
  simp only [List.drop_zero, List.take_succ_cons, List.take_zero]
  iterate 7 (refine wpQX_step (fun K hK => ?_); go_simp; refine hK _ ?_; clear hK K)
  refine wpQF_nil ?_
  clear lx lz hge
  refine wpW_step 7 rfl (by as_aux_lemma => kernel_rfl) (fun K hK => ?_)
  go_simp
  refine hK _ _ (relY_of (keptS_of_below ((Below.refl _ _).alloc (Nat.le_refl _) _) ze)) ?_
  clear hK K
  obtain ⟨w10, hw10⟩ : ∃ w10, we.alloc (.cells (vpC ⟨⟨v6, hi, lo⟩, (p : Int), (PV : Int), (cp : Int), nt⟩).toArray 150) = w10 := ⟨_, rfl⟩
  have hb10 : Below we.heap.size we w10 := hw10 ▸ (Below.refl _ _).alloc (Nat.le_refl _) _
  have hn10 : w10.heap[we.heap.size]? = some (.cells (vpC ⟨⟨v6, hi, lo⟩, (p : Int), (PV : Int), (cp : Int), nt⟩).toArray 150 (0, 0)) := hw10 ▸ blk_new _ _ _
  change wpW _ _ _ _ _ _ _ _ (we.alloc (.cells (vpC ⟨⟨v6, hi, lo⟩, (p : Int), (PV : Int), (cp : Int), nt⟩).toArray 150))
  rw [hw10]
  have hL10 := hLe.out.on hb10
  have hB10 := hBe.out.trans (hb10.mono (by have := hLe.out.xlt; omega))
  have z10 := hb10.size
  clear hw10 hb10 hLe hBe
  refine wpW_step 8 rfl (by as_aux_lemma => kernel_rfl) (fun K hK => ?_)
  rw [if_pos (by unfold Region.wanted; rfl)]
  refine wp_app_c (T := 150) Tryd.underlying69 info_vp rfl (by decide) (by decide) (.tmp 102) (.tmp 104) rfl base vv c.vips.length _ (vpC ⟨⟨v6, hi, lo⟩, (p : Int), (PV : Int), (cp : Int), nt⟩) we.heap.size rfl rfl hL10.cfg.vips hn10 rfl (vpC_one _) (by have := hL10.xlt; omega) (by have := hs.2.1; omega) fun v11 w11 h1 h2 => hK _ _ (relY_of ⟨h2.grown.os, h2.grown.tape, h2.grown.output, h2.grown.size, fun k hk hne => h2.grown.block k (by omega) (fun e => hne e.symm)⟩) ?_
  clear hK K hn10
  obtain ⟨A11, c11, hv11, -, -, -⟩ := own_isv h1
  subst hv11
  obtain ⟨hx11, hL12⟩ := hL10.pushV h1 h2
  have hB11 := hB10.trans (below_of_grown h2.grown (by have := hL10.xlt; omega) (fun k hk => (World.ownsRow.lt hL10.cfg.vips _ hk).1))
  have hB12 : Below base w (w11.setCell ⟨x, 1, none⟩ (.slice A11 (c.vips.length + 1) c11)) := hB11.setCell (p := ⟨x, 1, none⟩) hbx _
  have hc : w11.cell? ⟨x, 1, none⟩ = some vv := blk_cell hx11 1
  have hf := blk_free hx11 1
  clear h1 h2 hL10 hB10 hB11 hx11
  obtain ⟨w12, hw12⟩ : ∃ w12, w11.setCell ⟨x, 1, none⟩ (.slice A11 (c.vips.length + 1) c11) = w12 := ⟨_, rfl⟩
  rw [hw12] at hL12 hB12
  replace hL12 := hide hL12
  replace hB12 := hide hB12
  refine wpW_step 9 rfl (by as_aux_lemma => kernel_rfl) (fun K hK => ?_)
  go_simp
  refine hK _ _ (relY_of (IsRel.refl _)) ?_
  clear hK K
  refine wpW_step 10 rfl (by as_aux_lemma => kernel_rfl) (fun K hK => ?_)
  go_simp
  refine hK _ _ (relY_of (IsRel.refl _)) ?_
  clear hK K
  refine wpW_step 11 rfl (by as_aux_lemma => kernel_rfl) (fun K hK => ?_)
  go_simp
  refine hK _ _ (relY_of (IsRel.refl _)) ?_
  clear hK K
  refine wpW_step 12 rfl (by as_aux_lemma => kernel_rfl) (fun K hK => ?_)
  go_simp
  refine hK _ _ (relY_wr (by as_aux_lemma => kernel_rfl)) ?_
  clear hK K hc hf hw12
  refine wpW_done (by as_aux_lemma => kernel_rfl) ?_ _
  go_wp2_with fail
  refine bodyPost_ret (v := .int .i64 0) (by simp [results, Tryd.results97, go_sem]) rfl ?_
  exact lineEnd_ok hr6.out.symm ⟨mb, ma, nv, _, wv, hL12.out⟩ hB12.out
end Conf18
end Go.Proofs.YtbcicbiphgeghaaDoor
/- conf, the law: view: a line that says where sources begin. Conditions: words of at most 2^16 bytes. -/
namespace Go.Proofs.YtbcicbiphgeghaaDoor
open Go.RowKit Go.ChangeShapes Go.WideShapes Go.ChangeAt Go.Deep
namespace Conf18
open Addr05
set_option maxRecDepth 20000 in
set_option maxHeartbeats 8000000 in
theorem lview_any (ws : List (List UInt8)) (c : Cfg) (w : World) (base x k : Nat) (A : Option Addr) (hx : IsR strv w base A ws.length ws) (hl : ∀ y ∈ ws, y.length ≤ 65536) (hm : MaxAt w) (hs : c.small 4096) (hR : PlAt base x w c) :
    Calls Tryd.prog 98 #[.pointer (some ⟨x, 0, none⟩), .slice A ws.length k] w fun e w' => LineEnd (PlAt base x) base (viewF c ws) w w' e := by
  obtain ⟨r, hr⟩ : ∃ r, viewF c ws = r := ⟨_, rfl⟩
  rw [hr]
  by_cases hn : ws.length = 3
  · obtain ⟨y0, y1, y2, rfl⟩ := three_words hn
    obtain ⟨b, off, rfl, hb, hc⟩ := words_at hx (by simp)
    have c1 : w.cell? ⟨b, off + 1, none⟩ = some (.string (str y1)) := hc 1 (by simp)
    have c2 : w.cell? ⟨b, off + 2, none⟩ = some (.string (str y2)) := hc 2 (by simp)
    have q := pParse_any y1 (hl y1 (by simp)) w hm
    have q2 := fun w => lexNum_any y2 (Nat.le_trans (hl y2 (by simp)) (by decide)) 3 w
    unfold viewF at hr
    rw [if_neg (by simp), show wd [y0, y1, y2] 1 = y1 from rfl, show wd [y0, y1, y2] 2 = y2 from rfl] at hr
    change Calls Tryd.prog _ #[_, .slice _ 3 _] w _
    obtain ⟨mb, ma, nv, vv, wv, h⟩ := hR
    have hbx := h.cfg.hx
    have hxs := h.xlt
    clear hn hx hl hc hm
    rcases hp : pfxF y1 with _ | ⟨a, n⟩
    · rw [hp] at hr q
      have q1 : Calls Tryd.prog 52 #[.string (str y1)] w fun e w' => e = .returned (.tuple #[.agg #[.bool false, .int .u64 0, .int .u64 0, .int .i64 0], .int .i64 18]) ∧ Below w.heap.size w w' := q
      clear q
      replace h := hide h
      replace hr := hide hr
      replace q1 := hide q1
      replace q2 := hide q2
      replace hp := hide hp
      go_enter Tryd.func98, Tryd.ntmps98
      go_upto_region 3 with fail
      apply wp_region_lit
      iterate 3 (refine wpList_plain rfl fun K hK => ?_; go_simp; refine hK _ _ ?_; clear hK K)
      refine wpList_plain rfl fun K hK => ?_
      go_simp
      refine (q1.out).mono ?_
      rintro e w1 ⟨rfl, hb1⟩
      go_simp
      refine hK _ _ ?_
      clear hK K
      iterate 3 (refine wpList_plain rfl fun K hK => ?_; go_simp; refine hK _ _ ?_; clear hK K)
      refine wpl_new rfl rfl 28 _ (alloc_pfx _ rfl) 5 rfl (.tmp 17) rfl _ (fun _ => rfl) (fun _ => rfl) rfl (by kernel_rfl) (p_one false 0 0 0) ?_
      intro w2 hg2 hb2 hz2
      iterate 1 (refine wpList_plain rfl fun K hK => ?_; go_simp; refine hK _ _ ?_; clear hK K)
      refine wpList_nil ?_
      go_simp
      have hb3 := hb1.trans (hb2.mono (by have := hb1.size; omega))
      clear hg2 hb1 hb2
      replace hb3 := hide hb3
      go_wp2_with fail
      refine bodyPost_ret (v := .int .i64 18) (by simp [results, Tryd.results98, go_sem]) rfl ?_
      exact lineEnd_err hr.out.symm (by decide) hb3.out
    · rw [hp] at hr q
      have q1 : Calls Tryd.prog 52 #[.string (str y1)] w fun e w' => e = .returned (.tuple #[.agg #[.bool a.v6, .int .u64 (a.hi : Int), .int .u64 (a.lo : Int), .int .i64 (n : Int)], .int .i64 0]) ∧ Below w.heap.size w w' := q
      clear q
      dsimp only at hr
      obtain ⟨v6, hi, lo⟩ := a
      dsimp only at q1 hr
      replace h := hide h
      replace hr := hide hr
      replace q1 := hide q1
      replace q2 := hide q2
      replace hp := hide hp
      go_enter Tryd.func98, Tryd.ntmps98
      go_upto_region 3 with fail
      apply wp_region_lit
      iterate 3 (refine wpList_plain rfl fun K hK => ?_; go_simp; refine hK _ _ ?_; clear hK K)
      refine wpList_plain rfl fun K hK => ?_
      go_simp
      refine (q1.out).mono ?_
      rintro e w1 ⟨rfl, hb1⟩
      go_simp
      refine hK _ _ ?_
      clear hK K
      iterate 3 (refine wpList_plain rfl fun K hK => ?_; go_simp; refine hK _ _ ?_; clear hK K)
      refine wpl_new rfl rfl 28 _ (alloc_pfx _ rfl) 5 rfl (.tmp 17) rfl _ (fun _ => rfl) (fun _ => rfl) rfl (by kernel_rfl) (p_one v6 (hi : Int) (lo : Int) (n : Int)) ?_
      intro w2 hg2 hb2 hz2
      iterate 1 (refine wpList_plain rfl fun K hK => ?_; go_simp; refine hK _ _ ?_; clear hK K)
      refine wpList_nil ?_
      go_simp
      have hb3 := hb1.trans (hb2.mono (by have := hb1.size; omega))
      have h2 := (h.out.on hb1).on hb2
      have c2' := (hb3.cell (p := ⟨b, off + 2, none⟩) (by dsimp only; omega)).trans c2
      have hz1 := hb1.size
      clear hb1 hb2 h q1
      rcases hq : lexF y2 3 with _ | m
      · have q3 := q2.out w2
        rw [hq, lexV_none] at q3
        have hr2 := hr.out
        rw [hq] at hr2
        clear hr q2 hg2
        replace hb3 := hide hb3
        replace h2 := hide h2
        replace q3 := hide q3
        replace hr2 := hide hr2
        replace hq := hide hq
        go_wp2_with fail
        refine (q3.out).mono ?_
        rintro e w2 ⟨rfl, rfl⟩
        go_wp2_with fail
        refine bodyPost_ret (v := .int .i64 5) (by simp [results, Tryd.results98, go_sem]) rfl ?_
        exact lineEnd_err hr2.out.symm (by decide) hb3.out
      · have q3 := q2.out w2
        rw [hq, lexV_some] at q3
        have hr2 := hr.out
        rw [hq] at hr2
        clear hr q2
        replace hb3 := hide hb3
        replace h2 := hide h2
        replace q3 := hide q3
        replace hr2 := hide hr2
        replace hq := hide hq
        replace hg2 := hide hg2
        go_wp2_with fail
        refine (q3.out).mono ?_
        rintro e w2 ⟨rfl, rfl⟩
        go_upto_region 9 with fail
        have hrx := row_not_x h2.out.cfg.views h2.out.cfg.blk h2.out.cfg.hT.2.2
        have hrz : (wv.ownBlock = some w1.heap.size) → False := fun e => by
          obtain ⟨_, _, e2, _⟩ := own_isv h2.out.cfg.views
          rcases h2.out.cfg.views.2 with ⟨e3, _⟩ | ⟨g, cap, cur, e3, hg, hh, _⟩
          · rw [e3] at e; cases e
          · rw [e3] at e
            have e4 : g = w1.heap.size := by simpa [Value.ownBlock] using e
            subst e4
            have := hg2.out
            rw [hh] at this
            simp at this
        refine wp_region_Y [14] (KeptS w2.heap.size (fun k => wv.ownBlock = some k)) (by as_aux_lemma => kernel_rfl) ?_
        intro we hbe
        have hLe := h2.out.on hbe
        have hge := blk_below hbe hz2 hg2.out
        have hBe := (hb3.out.mono (B' := base) (by omega)).trans (hbe.mono (by omega))
        have ze := hbe.size
        have lx := fun l : RelW (KeptS w2.heap.size (fun k => wv.ownBlock = some k)) we => (show l.w.cell? ⟨x, 2, none⟩ = some wv from blk_cell ((l.hk.block x h2.out.xlt (by rcases hrx with e | e <;> (intro e2; first | (rw [e] at e2; cases e2) | exact e e2))).trans hLe.cfg.blk) 2)
        have lz := fun l : RelW (KeptS w2.heap.size (fun k => wv.ownBlock = some k)) we => blk_cell ((l.hk.block w1.heap.size hz2 hrz).trans hge)
        clear h2 hg2 hb3 hbe hrx hrz
        replace hLe := hide hLe
        replace hBe := hide hBe
        refine wpY_seg [14] (KeptS w2.heap.size (fun k => wv.ownBlock = some k)) 0 9 (fuel := 6) (by as_aux_lemma => kernel_rfl) (fun d _ _ _ _ h => by cases d <;> exact h) (by as_aux_lemma => kernel_rfl) (by as_aux_lemma => kernel_rfl) (by as_aux_lemma => kernel_rfl) ?_
        simp only [List.drop_zero, List.take_succ_cons, List.take_zero]
        iterate 9 (refine wpQX_step (fun K hK => ?_); go_simp; refine hK _ ?_; clear hK K)
        refine wpQF_nil ?_
        clear lx lz hge
        refine wpW_step 9 rfl (by as_aux_lemma => kernel_rfl) (fun K hK => ?_)
        go_simp
        refine hK _ _ (relY_of (keptS_of_below ((Below.refl _ _).alloc (Nat.le_refl _) _) ze)) ?_
        clear hK K
        obtain ⟨w10, hw10⟩ : ∃ w10, we.alloc (.cells (vwC ⟨⟨v6, hi, lo⟩, (n : Int), (m : Int)⟩).toArray 152) = w10 := ⟨_, rfl⟩
        have hb10 : Below we.heap.size we w10 := hw10 ▸ (Below.refl _ _).alloc (Nat.le_refl _) _
        have hn10 : w10.heap[we.heap.size]? = some (.cells (vwC ⟨⟨v6, hi, lo⟩, (n : Int), (m : Int)⟩).toArray 152 (0, 0)) := hw10 ▸ blk_new _ _ _
        change wpW _ _ _ _ _ _ _ _ (we.alloc (.cells (vwC ⟨⟨v6, hi, lo⟩, (n : Int), (m : Int)⟩).toArray 152))
        rw [hw10]
        have hL10 := hLe.out.on hb10
        have hB10 := hBe.out.trans (hb10.mono (by omega))
        have z10 := hb10.size
        clear hw10 hb10 hLe hBe
        refine wpW_step 10 rfl (by as_aux_lemma => kernel_rfl) (fun K hK => ?_)
        rw [if_pos (by unfold Region.wanted; rfl)]
        refine wp_app_c (T := 152) Tryd.underlying70 info_vw rfl (by decide) (by decide) (.tmp 36) (.tmp 40) rfl base wv c.views.length _ (vwC ⟨⟨v6, hi, lo⟩, (n : Int), (m : Int)⟩) we.heap.size rfl rfl hL10.cfg.views hn10 rfl (vwC_one _) (by omega) (by have := hs.2.2; omega) fun v11 w11 h1 h2 => hK _ _ (relY_of ⟨h2.grown.os, h2.grown.tape, h2.grown.output, h2.grown.size, fun k hk hne => h2.grown.block k (by omega) (fun e => hne e.symm)⟩) ?_
        clear hK K hn10
        obtain ⟨A11, c11, hv11, -, -, -⟩ := own_isv h1
        subst hv11
        obtain ⟨hx11, hL12⟩ := hL10.pushW h1 h2
        have hB11 := hB10.trans (below_of_grown h2.grown (by omega) (fun k hk => (World.ownsRow.lt hL10.cfg.views _ hk).1))
        have hB12 : Below base w (w11.setCell ⟨x, 2, none⟩ (.slice A11 (c.views.length + 1) c11)) := hB11.setCell (p := ⟨x, 2, none⟩) hbx _
        have hc : w11.cell? ⟨x, 2, none⟩ = some wv := blk_cell hx11 2
        have hf := blk_free hx11 2
        clear h1 h2 hL10 hB10 hB11 hx11
        obtain ⟨w12, hw12⟩ : ∃ w12, w11.setCell ⟨x, 2, none⟩ (.slice A11 (c.views.length + 1) c11) = w12 := ⟨_, rfl⟩
        rw [hw12] at hL12 hB12
        replace hL12 := hide hL12
        replace hB12 := hide hB12
        refine wpW_step 11 rfl (by as_aux_lemma => kernel_rfl) (fun K hK => ?_)
        go_simp
        refine hK _ _ (relY_of (IsRel.refl _)) ?_
        clear hK K
        refine wpW_step 12 rfl (by as_aux_lemma => kernel_rfl) (fun K hK => ?_)
        go_simp
        refine hK _ _ (relY_of (IsRel.refl _)) ?_
        clear hK K
        refine wpW_step 13 rfl (by as_aux_lemma => kernel_rfl) (fun K hK => ?_)
        go_simp
        refine hK _ _ (relY_of (IsRel.refl _)) ?_
        clear hK K
        refine wpW_step 14 rfl (by as_aux_lemma => kernel_rfl) (fun K hK => ?_)
        go_simp
        refine hK _ _ (relY_wr (by as_aux_lemma => kernel_rfl)) ?_
        clear hK K hc hf hw12
        refine wpW_done (by as_aux_lemma => kernel_rfl) ?_ _
        go_wp2_with fail
        refine bodyPost_ret (v := .int .i64 0) (by simp [results, Tryd.results98, go_sem]) rfl ?_
        exact lineEnd_ok hr2.out.symm ⟨mb, ma, nv, vv, _, hL12.out⟩ hB12.out
  · have t : ((ws.length : Int) != 3) = true := ne_nat (k := 3) hn
    unfold viewF at hr
    rw [if_pos hn] at hr
    clear hn hx hl hm
    replace hR := hide hR
    replace hr := hide hr
    go_enter Tryd.func98, Tryd.ntmps98
    go_wp2_with fail
    go_ret
    exact lineEnd_err hr.out.symm (by decide) (Below.refl _ _)
end Conf18
end Go.Proofs.YtbcicbiphgeghaaDoor
