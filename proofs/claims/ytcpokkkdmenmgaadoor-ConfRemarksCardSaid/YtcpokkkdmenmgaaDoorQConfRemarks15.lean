/- conf: node: a line of 5 words. Conditions: words of at most 2^16 bytes. -/
import Derived.Test.YtcpokkkdmenmgaaDoorQConfRemarks13
import Derived.Test.YtcpokkkdmenmgaaDoorQConfRemarks9
namespace Go.Proofs.YtcpokkkdmenmgaaDoor
open Go.RowKit Go.ChangeShapes Go.WideShapes Go.ChangeAt Go.Deep
namespace Conf18
open Addr05
set_option maxRecDepth 20000 in
set_option maxHeartbeats 16000000 in
theorem node5_any (y0 y1 y2 y3 y4 : List UInt8) (hk : kindF y0 = 4) (c : Cfg) (w : World) (base x b off cap : Nat) (hb : b < base) (c0 : w.cell? ⟨b, off, none⟩ = some (.string (str y0))) (c1 : w.cell? ⟨b, off + 1, none⟩ = some (.string (str y1))) (c2 : w.cell? ⟨b, off + 2, none⟩ = some (.string (str y2))) (c3 : w.cell? ⟨b, off + 3, none⟩ = some (.string (str y3))) (c4 : w.cell? ⟨b, off + 4, none⟩ = some (.string (str y4))) (_l0 : y0.length ≤ 65536) (l1 : y1.length ≤ 65536) (l2 : y2.length ≤ 65536) (l3 : y3.length ≤ 65536) (l4 : y4.length ≤ 65536) (hm : MaxAt w) (hs : c.small 4096) (hR : RdAt base x w c) :
    Calls Tryd.prog 62 #[.pointer (some ⟨x, 0, none⟩), .slice (some ⟨b, off, none⟩) 5 cap] w fun e w' => LineEnd (RdAt base x) base (nodeF 4 c [y0, y1, y2, y3, y4]) w w' e := by
  obtain ⟨r, hr⟩ : ∃ r, nodeF 4 c [y0, y1, y2, y3, y4] = r := ⟨_, rfl⟩
  rw [hr]
  have hL : leastF 4 = 5 := rfl
  have hM : mostF 4 = 5 := rfl
  have i2 := idx_most 4 (by omega) (by omega)
  have i3 := idx_least 4 (by omega) (by omega)
  rw [hM] at i2
  rw [hL] at i3
  unfold nodeF at hr
  rw [hL, hM, if_neg (by simp only [List.length_cons, List.length_nil]; omega)] at hr
  rw [show aboveF c [y0, y1, y2, y3, y4] = (atN c.nodes y2).map fun k => (k : Int) from rfl, show nadrF [y0, y1, y2, y3, y4] = parseF y4 from rfl] at hr
  have hW : weightF 4 [y0, y1, y2, y3, y4] = match lexF y3 65535 with | none => none | some v => if v = 0 ∧ 4 ≠ 4 then none else some v := rfl
  rw [hW] at hr
  clear hW
  rw [show wd [y0, y1, y2, y3, y4] 1 = y1 from rfl] at hr
  have qk := kind_any y0 w
  rw [hk] at qk
  change Calls Tryd.prog 81 #[.string (str y0)] w fun e w' => e = .returned (.int .i64 4) ∧ w' = w at qk
  change ∀ w, (Instr.index 152 (.agg #[.int .i64 0, .int .i64 2, .int .i64 4, .int .i64 4, .int .i64 5]) (.int .i64 4)).run Tryd.prog w = .ok (.int .i64 5) w at i2
  change ∀ w, (Instr.index 152 (.agg #[.int .i64 0, .int .i64 2, .int .i64 3, .int .i64 3, .int .i64 5]) (.int .i64 4)).run Tryd.prog w = .ok (.int .i64 5) w at i3
  obtain ⟨mb, ma, nv, vv, wv, h⟩ := hR
  have hbx := h.cfg.hx
  have hxs := h.xlt
  have hms := h.mlt
  have hbma := h.ha
  obtain ⟨z, hz⟩ : ∃ z, w.heap.size = z := ⟨_, rfl⟩
  have hbz : base ≤ z := by omega
  have hmaz : ma < z := by omega
  have q3 := fun w => lexNum_any y3 (Nat.le_trans l3 (by decide)) 65535 w
  obtain ⟨o, ho⟩ : ∃ o, atN c.nodes y2 = o := ⟨_, rfl⟩
  rw [ho] at hr
  obtain ⟨o1, ho1⟩ : ∃ o, atN c.nodes y1 = o := ⟨_, rfl⟩
  rw [ho1] at hr
  clear hk hL hM
  replace h := hide h
  replace hr := hide hr
  replace qk := hide qk
  replace ho := hide ho
  replace ho1 := hide ho1
  replace hm := hide hm
  replace hms := hide hms
  replace q3 := hide q3
  go_enter Tryd.func62, Tryd.ntmps62
  go_upto_region 1 with fail
  apply wp_region_lit
  iterate 3 (refine wpList_plain rfl fun K hK => ?_; go_simp; refine hK _ _ ?_; clear hK K)
  refine wpList_plain rfl fun K hK => ?_
  go_simp
  refine (qk.out).mono ?_
  rintro e w ⟨rfl, rfl⟩
  go_simp
  refine hK _ _ ?_
  clear hK K
  iterate 1 (refine wpList_plain rfl fun K hK => ?_; go_simp; refine hK _ _ ?_; clear hK K)
  refine wpl_new rfl rfl 72 _ (alloc_nd _ rfl) 5 rfl (.tmp 20) rfl _ (fun _ => rfl) (fun _ => rfl) rfl (by kernel_rfl) (nd_one ⟨#[]⟩ 4 (-1) 0 false 0 0) ?_
  intro w1 hg1 hb1 hz1
  rw [hz] at hg1 hb1 hz1
  refine wpList_nil ?_
  go_simp
  clear qk
  have c1b := (hb1.cell (p := ⟨b, off + 1, none⟩) (by dsimp only; omega)).trans c1
  obtain ⟨w2, hw2, hb2, hg2, hz2⟩ := loc_set (cs' := #[.string (str y1), .int .i64 4, .int .i64 (-1), .int .i64 0, .bool false, .int .u64 0, .int .u64 0]) hb1 hg1 0 (.string (str y1)) rfl
  have hca := blk_cell hg1
  have hfa := blk_free hg1
  replace hz2 : z < w2.heap.size := by omega
  clear hz1
  replace hb1 := hide hb1
  replace hg1 := hide hg1
  replace hb2 := hide hb2
  replace hg2 := hide hg2
  go_upto_region 8 with fail
  clear hca hfa hw2 hb1 hg1
  replace hb2 := hb2.out
  replace hg2 := hg2.out
  refine wp_region_X (Below (z + 1)) (by as_aux_lemma => kernel_rfl) ?_
  intro w3 hbd
  have hb3 := hb2.trans (hbd.mono (by omega))
  have hg3 := blk_below hbd (by omega) hg2
  have hz3 : z < w3.heap.size := Nat.lt_of_lt_of_le (by omega) hbd.size
  have hR := fun l : RelW (Below (z + 1)) w3 => h.out.on (by rw [hz]; exact hb3.trans (l.hk.mono (by omega)))
  have lx := fun l : RelW (Below (z + 1)) w3 => (show l.w.cell? ⟨x, 12, none⟩ = some (.map (some ma)) from blk_cell (hR l).cfg.blk 12)
  have lk := fun l : RelW (Below (z + 1)) w3 => (hR l).names.look y2 (Nat.le_trans l2 (by decide))
  rw [ho.out] at lk
  clear hR hbd
  clear hb2 hg2 hz2
  replace hb3 := hide hb3
  replace hg3 := hide hg3
  have lc := fun l : RelW (Below (z + 1)) w3 => (l.hk.cell (p := ⟨b, off + 2, none⟩) (by dsimp only; omega)).trans ((hb3.out.cell (p := ⟨b, off + 2, none⟩) (by dsimp only; omega)).trans c2)
  rcases o with _ | j
  · change ∀ l : RelW (Below (z + 1)) w3, (Instr.lookup 43 (.map (some ma)) (.string (str y2)) true).run Tryd.prog l.w = .ok (.tuple #[.int .i64 0, .bool false]) l.w at lk
    refine wpX_seg (Below (z + 1)) 0 13 (fuel := 0) (by as_aux_lemma => kernel_rfl) (fun d _ _ _ _ h => by cases d <;> exact h) (by as_aux_lemma => kernel_rfl) (by as_aux_lemma => kernel_rfl) ?_
    simp only [List.drop_zero, List.take_succ_cons, List.take_zero]
    iterate 13 (refine wpQX_step (fun K hK => ?_); go_simp; refine hK _ ?_; clear hK K)
    refine wpQF_nil ?_
    refine wpF_done (by as_aux_lemma => kernel_rfl) ?_ 0
    clear lk lx lc
    go_wp2_with fail
    refine bodyPost_ret (v := .int .i64 7) (by simp [results, Tryd.results62, go_sem]) rfl ?_
    exact lineEnd_err hr.out.symm (by decide) (by rw [hz]; exact hb3.out)
  change ∀ l : RelW (Below (z + 1)) w3, (Instr.lookup 43 (.map (some ma)) (.string (str y2)) true).run Tryd.prog l.w = .ok (.tuple #[.int .i64 (j : Int), .bool true]) l.w at lk
  refine wpX_seg (Below (z + 1)) 0 13 (fuel := 0) (by as_aux_lemma => kernel_rfl) (fun d _ _ _ _ h => by cases d <;> exact h) (by as_aux_lemma => kernel_rfl) (by as_aux_lemma => kernel_rfl) ?_
  simp only [List.drop_zero, List.take_succ_cons, List.take_zero]
  iterate 13 (refine wpQX_step (fun K hK => ?_); go_simp; refine hK _ ?_; clear hK K)
  refine wpQF_nil ?_
  refine wpF_done (by as_aux_lemma => kernel_rfl) ?_ 0
  clear lk lx lc
  replace hb3 := hb3.out
  replace hg3 := hg3.out
  have hr2 := hr.out
  clear hr
  dsimp only [Option.map] at hr2
  obtain ⟨w4, hw4, hb4, hg4, hz4⟩ := loc_set (cs' := #[.string (str y1), .int .i64 4, .int .i64 (j : Int), .int .i64 0, .bool false, .int .u64 0, .int .u64 0]) hb3 hg3 2 (.int .i64 (j : Int)) rfl
  have hca := blk_cell hg3
  have hfa := blk_free hg3
  replace hz4 : z < w4.heap.size := by omega
  clear hz3
  replace hb3 := hide hb3
  replace hg3 := hide hg3
  replace hb4 := hide hb4
  replace hg4 := hide hg4
  have c3b := (hb4.out.cell (p := ⟨b, off + 3, none⟩) (by dsimp only; omega)).trans c3
  rcases hv : lexF y3 65535 with _ | v
  · rw [hv] at hr2
    have q4 := q3.out w4
    rw [hv, lexV_none] at q4
    have hr := hide hr2
    clear hr2 hv
    replace q4 := hide q4
    go_wp2_with fail
    refine (q4.out).mono ?_
    rintro e w4 ⟨rfl, rfl⟩
    clear hca hfa hw4 hb3 hg3
    go_wp2_with fail
    refine bodyPost_ret (v := .int .i64 17) (by simp [results, Tryd.results62, go_sem]) rfl ?_
    exact lineEnd_err hr.out.symm (by decide) (by rw [hz]; exact hb4.out)
  rw [hv] at hr2
  dsimp only at hr2
  have q4 := q3.out w4
  rw [hv, lexV_some] at q4
  clear hv
  replace q4 := hide q4
  go_wp2_with fail
  refine (q4.out).mono ?_
  rintro e w4 ⟨rfl, rfl⟩
  clear hca hfa hw4 hb3 hg3
  replace hb4 := hb4.out
  replace hg4 := hg4.out
  have hgc := blk_cell hg4
  rw [if_neg (fun e => e.2 rfl)] at hr2
  go_upto_region 14 with fail
  go_cut [81] from 71 to 80 (fun bv wx => bv = .bool false ∧ w4 = wx)
  case first =>
    clear hb4 hg4 hr2
    go_wp2_with fail
    all_goals
      first | (go_meet; exact ⟨rfl, rfl⟩) | ((have h0 : v = 0 := by omega); subst h0; go_meet; exact ⟨rfl, rfl⟩)
  case rest =>
  obtain ⟨rfl, rfl⟩ := hcut
  clear hgc
  obtain ⟨w5, hw5, hb5, hg5, hz5⟩ := loc_set (cs' := #[.string (str y1), .int .i64 4, .int .i64 (j : Int), .int .i64 (v : Int), .bool false, .int .u64 0, .int .u64 0]) hb4 hg4 3 (.int .i64 (v : Int)) rfl
  have hca := blk_cell hg4
  have hfa := blk_free hg4
  replace hz5 : z < w5.heap.size := by omega
  clear hz4
  replace hb4 := hide hb4
  replace hg4 := hide hg4
  replace hb5 := hide hb5
  replace hg5 := hide hg5
  have hm9 := hm.out.below (by rw [hz]; exact hb5.out)
  have c4b := (hb5.out.cell (p := ⟨b, off + 4, none⟩) (by dsimp only; omega)).trans c4
  have q5 := Parse_any y4 l4 w5 hm9
  go_upto_region 18 with fail
  clear hca hfa hw5 hb4 hg4
  replace hb5 := hb5.out
  replace hg5 := hg5.out
  rcases hp : parseF y4 with _ | ad
  · rw [hp] at q5 hr2
    have q6 : Calls Tryd.prog 82 #[.string (str y4)] w5 fun e w' => e = .returned (.tuple #[.agg #[.bool false, .int .u64 0, .int .u64 0], .int .i64 18]) ∧ Below w5.heap.size w5 w' := q5
    have hr := hide hr2
    clear hr2 q5 hp
    replace q6 := hide q6
    replace hb5 := hide hb5
    replace hg5 := hide hg5
    apply wp_region_lit
    iterate 3 (refine wpList_plain rfl fun K hK => ?_; go_simp; refine hK _ _ ?_; clear hK K)
    refine wpList_plain rfl fun K hK => ?_
    go_simp
    refine (q6.out).mono ?_
    rintro e wb ⟨rfl, hbb⟩
    go_simp
    refine hK _ _ ?_
    clear hK K
    iterate 3 (refine wpList_plain rfl fun K hK => ?_; go_simp; refine hK _ _ ?_; clear hK K)
    refine wpl_new rfl rfl 27 _ (alloc_adr _ rfl) 12 rfl (.tmp 92) rfl _ (fun _ => rfl) (fun _ => rfl) rfl (by kernel_rfl) (adr_one false 0 0) ?_
    intro wd hgd hbd hzd
    iterate 1 (refine wpList_plain rfl fun K hK => ?_; go_simp; refine hK _ _ ?_; clear hK K)
    refine wpList_nil ?_
    go_simp
    have hbe := (hb5.out.trans (hbb.mono (by omega))).trans (hbd.mono (by have := hbb.size; omega))
    clear hgd hbb hbd
    replace hbe := hide hbe
    go_wp2_with fail
    refine bodyPost_ret (v := .int .i64 18) (by simp [results, Tryd.results62, go_sem]) rfl ?_
    exact lineEnd_err hr.out.symm (by decide) (by rw [hz]; exact hbe.out)
  rw [hp] at q5 hr2
  obtain ⟨v6, hi, lo⟩ := ad
  have q6 : Calls Tryd.prog 82 #[.string (str y4)] w5 fun e w' => e = .returned (.tuple #[.agg #[.bool v6, .int .u64 (hi : Int), .int .u64 (lo : Int)], .int .i64 0]) ∧ Below w5.heap.size w5 w' := q5
  have hr := hide hr2
  clear hr2 q5 hp
  replace q6 := hide q6
  replace hb5 := hide hb5
  replace hg5 := hide hg5
  apply wp_region_lit
  iterate 3 (refine wpList_plain rfl fun K hK => ?_; go_simp; refine hK _ _ ?_; clear hK K)
  refine wpList_plain rfl fun K hK => ?_
  go_simp
  refine (q6.out).mono ?_
  rintro e wb ⟨rfl, hbb⟩
  go_simp
  refine hK _ _ ?_
  clear hK K
  iterate 3 (refine wpList_plain rfl fun K hK => ?_; go_simp; refine hK _ _ ?_; clear hK K)
  refine wpl_new rfl rfl 27 _ (alloc_adr _ rfl) 12 rfl (.tmp 92) rfl _ (fun _ => rfl) (fun _ => rfl) rfl (by kernel_rfl) (adr_one v6 (hi : Int) (lo : Int)) ?_
  intro w6 hgd hbd hzd
  iterate 1 (refine wpList_plain rfl fun K hK => ?_; go_simp; refine hK _ _ ?_; clear hK K)
  refine wpList_nil ?_
  go_simp
  have hzb := hbb.size
  have hb6 := (hb5.out.trans (hbb.mono (by omega))).trans (hbd.mono (by omega))
  have hg6 := blk_below hbd (by omega) (blk_below hbb (by omega) hg5.out)
  have hz6 : z < w6.heap.size := by omega
  have hgl := blk_cell hgd
  clear hgd hbb hbd hb5 hg5 q6 hm9
  obtain ⟨w7, hw7, hb7, hg7, hz7⟩ := loc_set (cs' := #[.string (str y1), .int .i64 4, .int .i64 (j : Int), .int .i64 (v : Int), .bool v6, .int .u64 0, .int .u64 0]) hb6 hg6 4 (.bool v6) rfl
  have hca0 := blk_cell hg6 4
  have hfa0 := blk_free hg6 4
  obtain ⟨w8, hw8, hb8, hg8, hz8⟩ := loc_set (cs' := #[.string (str y1), .int .i64 4, .int .i64 (j : Int), .int .i64 (v : Int), .bool v6, .int .u64 (hi : Int), .int .u64 0]) hb7 hg7 5 (.int .u64 (hi : Int)) rfl
  have hca1 := blk_cell hg7 5
  have hfa1 := blk_free hg7 5
  obtain ⟨w9, hw9, hb9, hg9, hz9⟩ := loc_set (cs' := #[.string (str y1), .int .i64 4, .int .i64 (j : Int), .int .i64 (v : Int), .bool v6, .int .u64 (hi : Int), .int .u64 (lo : Int)]) hb8 hg8 6 (.int .u64 (lo : Int)) rfl
  have hca2 := blk_cell hg8 6
  have hfa2 := blk_free hg8 6
  replace hz9 : z < w9.heap.size := by omega
  clear hz8 hz7 hz6
  replace hb9 := hide hb9
  replace hg9 := hide hg9
  go_upto_region 22 with fail
  clear hca0 hfa0 hca1 hfa1 hca2 hfa2 hw9 hw8 hw7 hb8 hb7 hb6 hg8 hg7 hg6 hgl
  replace hb9 := hb9.out
  replace hg9 := hg9.out
  refine wp_region_X (Below (z + 1)) (by as_aux_lemma => kernel_rfl) ?_
  intro w10 hbd
  have hb10 := hb9.trans (hbd.mono (by omega))
  have hg10 := blk_below hbd (by omega) hg9
  have hz10 : z < w10.heap.size := Nat.lt_of_lt_of_le (by omega) hbd.size
  have hR := fun l : RelW (Below (z + 1)) w10 => h.out.on (by rw [hz]; exact hb10.trans (l.hk.mono (by omega)))
  have lx := fun l : RelW (Below (z + 1)) w10 => (show l.w.cell? ⟨x, 12, none⟩ = some (.map (some ma)) from blk_cell (hR l).cfg.blk 12)
  have lk := fun l : RelW (Below (z + 1)) w10 => (hR l).names.look y1 (Nat.le_trans l1 (by decide))
  rw [ho1.out] at lk
  clear hR hbd
  clear hb9 hg9 hz9
  replace hb10 := hide hb10
  replace hg10 := hide hg10
  have lc := fun l : RelW (Below (z + 1)) w10 => (l.hk.cell (p := ⟨z, 0, none⟩) (by dsimp only; omega)).trans (show w10.cell? ⟨z, 0, none⟩ = some (.string (str y1)) from blk_cell hg10.out 0)
  rcases o1 with _ | j1
  · change ∀ l : RelW (Below (z + 1)) w10, (Instr.lookup 43 (.map (some ma)) (.string (str y1)) true).run Tryd.prog l.w = .ok (.tuple #[.int .i64 0, .bool false]) l.w at lk
    refine wpX_seg (Below (z + 1)) 0 12 (fuel := 0) (by as_aux_lemma => kernel_rfl) (fun d _ _ _ _ h => by cases d <;> exact h) (by as_aux_lemma => kernel_rfl) (by as_aux_lemma => kernel_rfl) ?_
    simp only [List.drop_zero, List.take_succ_cons, List.take_zero]
    iterate 12 (refine wpQX_step (fun K hK => ?_); go_simp; refine hK _ ?_; clear hK K)
    refine wpQF_nil ?_
    refine wpF_done (by as_aux_lemma => kernel_rfl) ?_ 0
    clear lk lx lc
    go_upto_region 25 with fail
    refine wp_region_Y [12] (Below (z + 1)) (by as_aux_lemma => kernel_rfl) ?_
    intro w11 hbd
    have hb11 := hb10.out.trans (hbd.mono (by omega))
    have hg11 := blk_below hbd (by omega) hg10.out
    have hz11 : z < w11.heap.size := Nat.lt_of_lt_of_le (by omega) hbd.size
    have hR := fun l : RelW (Below (z + 1)) w11 => h.out.on (by rw [hz]; exact hb11.trans (l.hk.mono (by omega)))
    have hR0 := h.out.on (by rw [hz]; exact hb11)
    have lx := fun l : RelW (Below (z + 1)) w11 => (show l.w.cell? ⟨x, 12, none⟩ = some (.map (some ma)) from blk_cell (hR l).cfg.blk 12)
    have lc := fun l : RelW (Below (z + 1)) w11 => (l.hk.cell (p := ⟨z, 0, none⟩) (by dsimp only; omega)).trans (show w11.cell? ⟨z, 0, none⟩ = some (.string (str y1)) from blk_cell hg11 0)
    obtain ⟨An, cn, hvn, -, -, -⟩ := own_isv hR0.cfg.nodes
    subst hvn
    have ln := fun l : RelW (Below (z + 1)) w11 => (show l.w.cell? ⟨x, 0, none⟩ = some (.slice An c.nodes.length cn) from blk_cell (hR l).cfg.blk 0)
    clear hR hbd
    clear hb10 hg10 hz10
    replace hb11 := hide hb11
    replace hg11 := hide hg11
    replace hR0 := hide hR0
    refine wpY_seg [12] (Below (z + 1)) 0 12 (fuel := 1) (by as_aux_lemma => kernel_rfl) (fun d _ _ _ _ h => by cases d <;> exact h) (by as_aux_lemma => kernel_rfl) (by as_aux_lemma => kernel_rfl) (by as_aux_lemma => kernel_rfl) ?_
    simp only [List.drop_zero, List.take_succ_cons, List.take_zero]
    iterate 12 (refine wpQX_step (fun K hK => ?_); go_simp; refine hK _ ?_; clear hK K)
    refine wpQF_nil ?_
    clear lx lc ln
    refine wpW_step 12 rfl (by as_aux_lemma => kernel_rfl) (fun K hK => ?_)
    rw [if_pos (by unfold Region.wanted; rfl)]
    refine wp_putI (.tmp 113) (.tmp 115) (.tmp 121) rfl ma c.nodes.length (atN c.nodes) y1 c.nodes.length (Nat.le_trans l1 (by decide)) (by have := hs.1; omega) (by have := hs.1; omega) rfl rfl rfl hR0.out.names fun w12 hM hgm v0 => hK _ _ (relY_wr (by as_aux_lemma => kernel_rfl)) ?_
    clear hK K
    have hN := hR0.out.named hgm hM
    have hbb := (hb11.out.mono hbz).trans (below_of_grown (base := base) hgm (by omega) (fun k hk => by cases hk; exact hbma))
    have hg12 := grown_other hgm (by omega) (by omega) hg11.out
    have hz12 : z < w12.heap.size := lt_of_blk hg12
    clear hM hgm hR0 hb11 hg11 hz11
    replace hN := hide hN
    replace hbb := hide hbb
    replace hg12 := hide hg12
    refine wpW_done (by as_aux_lemma => kernel_rfl) ?_ _
    go_upto_region 26 with fail
    have hrx := row_not_x hN.out.cfg.nodes hN.out.cfg.blk hN.out.cfg.hT.1
    have hrz : (Value.slice An c.nodes.length cn).ownBlock = some z → False := fun e => by have := (World.ownsRow.lt h.out.cfg.nodes _ e).2; omega
    refine wp_region_Y [12] (KeptS w12.heap.size (fun k => (Value.slice An c.nodes.length cn).ownBlock = some k)) (by as_aux_lemma => kernel_rfl) ?_
    intro w13 hbd
    have hN13 := hN.out.on hbd
    have hge := blk_below hbd hz12 hg12.out
    have hbe := hbb.out.trans (hbd.mono (by omega))
    have ze := hbd.size
    have lx := fun l : RelW (KeptS w12.heap.size (fun k => (Value.slice An c.nodes.length cn).ownBlock = some k)) w13 => (show l.w.cell? ⟨x, 0, none⟩ = some (Value.slice An c.nodes.length cn) from blk_cell ((l.hk.block x (lt_of_blk hN.out.cfg.blk) (by rcases hrx with e | e <;> (intro e2; first | (rw [e] at e2; cases e2) | exact e e2))).trans hN13.cfg.blk) 0)
    have lz := fun l : RelW (KeptS w12.heap.size (fun k => (Value.slice An c.nodes.length cn).ownBlock = some k)) w13 => blk_cell ((l.hk.block z hz12 hrz).trans hge)
    clear hN hg12 hbb hbd hrx hrz
    replace hN13 := hide hN13
    replace hbe := hide hbe
    refine wpY_seg [12] (KeptS w12.heap.size (fun k => (Value.slice An c.nodes.length cn).ownBlock = some k)) 0 7 (fuel := 6) (by as_aux_lemma => kernel_rfl) (fun d _ _ _ _ h => by cases d <;> exact h) (by as_aux_lemma => kernel_rfl) (by as_aux_lemma => kernel_rfl) (by as_aux_lemma => kernel_rfl) ?_
    simp only [List.drop_zero, List.take_succ_cons, List.take_zero]
    iterate 7 (refine wpQX_step (fun K hK => ?_); go_simp; refine hK _ ?_; clear hK K)
    refine wpQF_nil ?_
    clear lx lz hge
    obtain ⟨ND, hND⟩ : ∃ ND : Nd, ND = ⟨y1, 4, (j : Int), (v : Int), ⟨v6, hi, lo⟩⟩ := ⟨_, rfl⟩
    have hC : ndC ND = [.string (str y1), .int .i64 4, .int .i64 (j : Int), .int .i64 (v : Int), .bool v6, .int .u64 (hi : Int), .int .u64 (lo : Int)] := by rw [hND]; rfl
    refine wpW_step 7 rfl (by as_aux_lemma => kernel_rfl) (fun K hK => ?_)
    go_simp
    refine hK _ _ (relY_of (keptS_of_below ((Below.refl _ _).alloc (Nat.le_refl _) _) ze)) ?_
    clear hK K
    obtain ⟨wt, hwt⟩ : ∃ wt, w13.alloc (.cells (ndC ND).toArray 72) = wt := ⟨_, rfl⟩
    have hbt : Below w13.heap.size w13 wt := hwt ▸ (Below.refl _ _).alloc (Nat.le_refl _) _
    have hnt : wt.heap[w13.heap.size]? = some (.cells (ndC ND).toArray 72 (0, 0)) := hwt ▸ blk_new _ _ _
    rw [hC] at hwt
    change wpW _ _ _ _ _ _ _ _ (w13.alloc (.cells ([.string (str y1), .int .i64 4, .int .i64 (j : Int), .int .i64 (v : Int), .bool v6, .int .u64 (hi : Int), .int .u64 (lo : Int)]).toArray 72))
    rw [hwt]
    have hNt := hN13.out.on hbt
    have hbf := hbe.out.trans (hbt.mono (by omega))
    have zt := hbt.size
    clear hwt hbt hN13 hbe
    refine wpW_step 8 rfl (by as_aux_lemma => kernel_rfl) (fun K hK => ?_)
    rw [if_pos (by unfold Region.wanted; rfl)]
    refine wp_app_c (T := 72) Tryd.underlying22 info_nd rfl (by decide) (by decide) (.tmp 127) (.tmp 129) rfl base _ c.nodes.length _ (ndC ND) w13.heap.size rfl rfl hNt.cfg.nodes hnt rfl (ndC_one _) (by omega) (by have := hs.1; omega) fun v11 w11 h1 h2 => hK _ _ (relY_of ⟨h2.grown.os, h2.grown.tape, h2.grown.output, h2.grown.size, fun k hk hne => h2.grown.block k (by omega) (fun e => hne e.symm)⟩) ?_
    clear hK K hnt
    obtain ⟨A11, c11, hv11, -, -, -⟩ := own_isv h1
    subst hv11
    have hNt2 : RdN wt base x mb ma c ND.name (.slice An c.nodes.length cn) vv wv := by rw [hND]; exact hNt
    obtain ⟨hx11, hL12⟩ := hNt2.pushN (by rw [hND]; exact ho1.out) h1 h2
    have hB11 := hbf.trans (below_of_grown h2.grown (by omega) (fun k hk => (World.ownsRow.lt hNt.cfg.nodes _ hk).1))
    have hB12 : Below base w (w11.setCell ⟨x, 0, none⟩ (.slice A11 (c.nodes.length + 1) c11)) := hB11.setCell (p := ⟨x, 0, none⟩) hbx _
    have hc : w11.cell? ⟨x, 0, none⟩ = some (Value.slice An c.nodes.length cn) := blk_cell hx11 0
    have hf := blk_free hx11 0
    clear h1 h2 hNt hNt2 hbf hB11 hx11
    obtain ⟨w12, hw12⟩ : ∃ w12, w11.setCell ⟨x, 0, none⟩ (.slice A11 (c.nodes.length + 1) c11) = w12 := ⟨_, rfl⟩
    rw [hw12] at hL12 hB12
    replace hL12 := hide hL12
    replace hB12 := hide hB12
    replace hND := hide hND
    replace hC := hide hC
    refine wpW_step 9 rfl (by as_aux_lemma => kernel_rfl) (fun K hK => ?_)
    go_simp
    refine hK _ _ (relY_of (IsRel.refl _)) ?_
    clear hK K
    refine wpW_step 10 rfl (by as_aux_lemma => kernel_rfl) (fun K hK => ?_)
    go_simp
    refine hK _ _ (relY_of (IsRel.refl _)) ?_
    clear hK K
    refine wpW_step 11 rfl (by as_aux_lemma => kernel_rfl) (fun K hK => ?_)
    go_simp
    refine hK _ _ (relY_of (IsRel.refl _)) ?_
    clear hK K
    refine wpW_step 12 rfl (by as_aux_lemma => kernel_rfl) (fun K hK => ?_)
    go_simp
    refine hK _ _ (relY_wr (by as_aux_lemma => kernel_rfl)) ?_
    clear hK K hc hf hw12
    refine wpW_done (by as_aux_lemma => kernel_rfl) ?_ _
    go_wp2_with fail
    refine bodyPost_ret (v := .int .i64 0) (by simp [results, Tryd.results62, go_sem]) rfl ?_
    have hL := hL12.out
    rw [hND.out] at hL
    exact lineEnd_ok hr.out.symm ⟨mb, ma, _, vv, wv, hL⟩ hB12.out
  change ∀ l : RelW (Below (z + 1)) w10, (Instr.lookup 43 (.map (some ma)) (.string (str y1)) true).run Tryd.prog l.w = .ok (.tuple #[.int .i64 (j1 : Int), .bool true]) l.w at lk
  refine wpX_seg (Below (z + 1)) 0 12 (fuel := 0) (by as_aux_lemma => kernel_rfl) (fun d _ _ _ _ h => by cases d <;> exact h) (by as_aux_lemma => kernel_rfl) (by as_aux_lemma => kernel_rfl) ?_
  simp only [List.drop_zero, List.take_succ_cons, List.take_zero]
  iterate 12 (refine wpQX_step (fun K hK => ?_); go_simp; refine hK _ ?_; clear hK K)
  refine wpQF_nil ?_
  refine wpF_done (by as_aux_lemma => kernel_rfl) ?_ 0
  clear lk lx lc
  go_wp2_with fail
  refine bodyPost_ret (v := .int .i64 8) (by simp [results, Tryd.results62, go_sem]) rfl ?_
  exact lineEnd_err hr.out.symm (by decide) (by rw [hz]; exact hb10.out)
end Conf18
end Go.Proofs.YtcpokkkdmenmgaaDoor
/- conf: vip: a line that says which address is balanced. Conditions: words of at most 2^16 bytes. -/
namespace Go.Proofs.YtcpokkkdmenmgaaDoor
open Go.RowKit Go.ChangeShapes Go.WideShapes Go.ChangeAt Go.Deep
namespace Conf18
open Addr05
theorem alloc_vp (o : Oper) (h : o.op = .alloc 77) (ρ : Operand → Value) (w : World) : (execOp ρ o).run Tryd.prog w = .ok (.value (.pointer (some ⟨w.heap.size, 0, none⟩))) (w.alloc (.cells #[.bool false, .int .u64 0, .int .u64 0, .int .i64 0, .int .i64 0, .int .i64 0, .bool false] 77)) := by
  obtain ⟨d, op, t, ps, af, g⟩ := o
  dsimp only at h
  subst h
  kernel_rfl
theorem vp_one (v6 : Bool) (hi lo p q n : Int) (t : Bool) : (#[.bool v6, .int .u64 hi, .int .u64 lo, .int .i64 p, .int .i64 q, .int .i64 n, .bool t] : Array Value).all (·.oneCell') = true := all_oneCell_toArray (by
  intro u hu
  simp only [List.mem_cons, List.not_mem_nil, or_false] at hu
  rcases hu with rfl | rfl | rfl | rfl | rfl | rfl | rfl <;> rfl)
theorem isr_from {w : World} {B n b off c : Nat} {ws : List (List UInt8)} (h : IsR strv w B (some ⟨b, off, none⟩) n ws) (k : Nat) (hk : k ≤ n) (hc : n ≤ c) : IsR strv w B (if c = k then some ⟨b, off, none⟩ else some ⟨b, off + k, none⟩) (n - k) (ws.drop k) := by
  by_cases e : c = k
  · rw [if_pos e]
    have hn : n = k := by omega
    have hl := h.len
    rw [List.drop_eq_nil_of_le (by omega), show n - k = 0 by omega]
    exact IsR.none
  · rw [if_neg e]
    exact IsR.drop h k
/-- Where a word of the rest stands. -/
theorem word_at {w : World} {B n : Nat} {A : Option Addr} {ws : List (List UInt8)} (h : IsR strv w B A n ws) (hn : 0 < n) : ∃ b off, A = some ⟨b, off, none⟩ ∧ b < B ∧ ∀ i, i < n → w.cell? ⟨b, off + i, none⟩ = some (.string (str (wd ws i))) := by
  have hl := h.len
  subst hl
  exact words_at h hn
set_option maxRecDepth 20000 in
set_option maxHeartbeats 16000000 in
theorem vip_any (ws : List (List UInt8)) (c : Cfg) (w : World) (base x cap : Nat) (A : Option Addr) (hx : IsR strv w base A ws.length ws) (hcap : ws.length ≤ cap) (hcm : cap ≤ maxLen) (hl : ∀ y ∈ ws, y.length ≤ 65536) (hm : MaxAt w) (hs : c.small 4096) (hR : RdAt base x w c) :
    Calls Tryd.prog 60 #[.pointer (some ⟨x, 0, none⟩), .slice A ws.length cap] w fun e w' => LineEnd (RdAt base x) base (vipF c ws) w w' e := by
  obtain ⟨r, hr⟩ : ∃ r, vipF c ws = r := ⟨_, rfl⟩
  rw [hr]
  have hlw : ∀ i, (wd ws i).length ≤ 65536 := by
    intro i
    rcases Nat.lt_or_ge i ws.length with h1 | h1
    · rw [wd_get (List.getElem?_eq_getElem h1)]
      exact hl _ (List.getElem_mem h1)
    · unfold wd
      rw [List.getD_eq_getElem?_getD, List.getElem?_eq_none h1]
      exact Nat.zero_le _
  by_cases hn : ws.length < 4
  · have t : (ws.length : Int) < 4 := by omega
    unfold vipF at hr
    rw [if_pos hn] at hr
    clear hn hx hl hm hlw
    replace hR := hide hR
    replace hr := hide hr
    go_enter Tryd.func60, Tryd.ntmps60
    go_wp2_with fail
    go_ret
    exact lineEnd_err hr.out.symm (by decide) (Below.refl _ _)
  unfold vipF at hr
  rw [if_neg hn] at hr
  obtain ⟨b, off, rfl, hb, hc⟩ := words_at hx (by omega)
  have c1 := hc 1 (by omega)
  have c2 := hc 2 (by omega)
  have c3 := hc 3 (by omega)
  clear hc
  have hx4 := isr_from hx 4 (by omega) hcap
  have t : ¬ (ws.length : Int) < 4 := by omega
  have q := Parse_any (wd ws 1) (hlw 1) w hm
  have q3 := fun w => lexNum_any (wd ws 3) (Nat.le_trans (hlw 3) (by decide)) 65535 w
  have qp := fun w => proto_any (wd ws 2) w
  obtain ⟨mb, ma, nv, vv, wv, h⟩ := hR
  have hbx := h.cfg.hx
  have hxs := h.xlt
  obtain ⟨z0, hz0⟩ : ∃ z, w.heap.size = z := ⟨_, rfl⟩
  have hbz : base ≤ z0 := by omega
  obtain ⟨A4, hA4⟩ : ∃ A4, (if cap = 4 then some ⟨b, off, none⟩ else some ⟨b, off + 4, none⟩ : Option Addr) = A4 := ⟨_, rfl⟩
  rw [hA4] at hx4
  obtain ⟨n, hnl⟩ : ∃ n, ws.length = n := ⟨_, rfl⟩
  rw [hnl] at hx4 hcap hn t ⊢
  obtain ⟨m4, hm4⟩ : ∃ m4, n - 4 = m4 := ⟨_, rfl⟩
  rw [hm4] at hx4
  have n1 : (1 : Int) < (n : Int) := by omega
  have n2 : (2 : Int) < (n : Int) := by omega
  have n3 : (3 : Int) < (n : Int) := by omega
  have n4 : (4 : Int) ≤ (n : Int) := by omega
  clear hx hl hm hn
  rcases hp : parseF (wd ws 1) with _ | ad
  · rw [hp] at hr q
    have q1 : Calls Tryd.prog 82 #[.string (str (wd ws 1))] w fun e w' => e = .returned (.tuple #[.agg #[.bool false, .int .u64 0, .int .u64 0], .int .i64 18]) ∧ Below w.heap.size w w' := q
    clear q
    replace h := hide h
    replace hr := hide hr
    replace q1 := hide q1
    replace q3 := hide q3
    replace qp := hide qp
    replace hp := hide hp
    replace hx4 := hide hx4
    replace hlw := hide hlw
    replace hnl := hide hnl
    go_enter Tryd.func60, Tryd.ntmps60
    go_upto_region 3 with fail
    apply wp_region_lit
    iterate 3 (refine wpList_plain rfl fun K hK => ?_; go_simp; refine hK _ _ ?_; clear hK K)
    refine wpList_plain rfl fun K hK => ?_
    go_simp
    refine (q1.out).mono ?_
    rintro e w1 ⟨rfl, hb1⟩
    go_simp
    refine hK _ _ ?_
    clear hK K
    iterate 3 (refine wpList_plain rfl fun K hK => ?_; go_simp; refine hK _ _ ?_; clear hK K)
    refine wpl_new rfl rfl 27 _ (alloc_adr _ rfl) 5 rfl (.tmp 21) rfl _ (fun _ => rfl) (fun _ => rfl) rfl (by kernel_rfl) (adr_one false 0 0) ?_
    intro w2 hg2 hb2 hz2
    iterate 1 (refine wpList_plain rfl fun K hK => ?_; go_simp; refine hK _ _ ?_; clear hK K)
    refine wpList_nil ?_
    go_simp
    have hb3 := hb1.trans (hb2.mono (by have := hb1.size; omega))
    clear hg2 hb1 hb2
    replace hb3 := hide hb3
    go_wp2_with fail
    refine bodyPost_ret (v := .int .i64 18) (by simp [results, Tryd.results60, go_sem]) rfl ?_
    exact lineEnd_err hr.out.symm (by decide) hb3.out
  rw [hp] at hr q
  obtain ⟨v6, hi, lo⟩ := ad
  have q1 : Calls Tryd.prog 82 #[.string (str (wd ws 1))] w fun e w' => e = .returned (.tuple #[.agg #[.bool v6, .int .u64 (hi : Int), .int .u64 (lo : Int)], .int .i64 0]) ∧ Below w.heap.size w w' := q
  clear q
  dsimp only at hr
  obtain ⟨o3, ho3⟩ : ∃ o, lexF (wd ws 3) 65535 = o := ⟨_, rfl⟩
  rw [ho3] at hr q3
  obtain ⟨p, hpp⟩ : ∃ p, protoF (wd ws 2) = p := ⟨_, rfl⟩
  rw [hpp] at hr qp
  replace h := hide h
  replace hr := hide hr
  replace q1 := hide q1
  replace q3 := hide q3
  replace qp := hide qp
  replace hp := hide hp
  replace hx4 := hide hx4
  replace hlw := hide hlw
  replace hnl := hide hnl
  replace ho3 := hide ho3
  replace hpp := hide hpp
  go_enter Tryd.func60, Tryd.ntmps60
  go_upto_region 3 with fail
  apply wp_region_lit
  iterate 3 (refine wpList_plain rfl fun K hK => ?_; go_simp; refine hK _ _ ?_; clear hK K)
  refine wpList_plain rfl fun K hK => ?_
  go_simp
  refine (q1.out).mono ?_
  rintro e w1 ⟨rfl, hb1⟩
  go_simp
  refine hK _ _ ?_
  clear hK K
  iterate 3 (refine wpList_plain rfl fun K hK => ?_; go_simp; refine hK _ _ ?_; clear hK K)
  refine wpl_new rfl rfl 27 _ (alloc_adr _ rfl) 5 rfl (.tmp 21) rfl _ (fun _ => rfl) (fun _ => rfl) rfl (by kernel_rfl) (adr_one v6 (hi : Int) (lo : Int)) ?_
  intro w2 hg2 hb2 hz2
  iterate 1 (refine wpList_plain rfl fun K hK => ?_; go_simp; refine hK _ _ ?_; clear hK K)
  refine wpList_nil ?_
  go_simp
  rw [hz0] at hb1
  have hz1 := hb1.size
  have hb3 := hb1.trans (hb2.mono (by omega))
  have c2b := (hb3.cell (p := ⟨b, off + 2, none⟩) (by dsimp only; omega)).trans c2
  have c3b := (hb3.cell (p := ⟨b, off + 3, none⟩) (by dsimp only; omega)).trans c3
  clear hb1 hb2 q1
  replace hb3 := hide hb3
  replace hg2 := hide hg2
  have q4 := q3.out w2
  clear q3
  unfold lexV at q4
  obtain ⟨PV, hPV⟩ : ∃ v, o3.getD 0 = v := ⟨_, rfl⟩
  obtain ⟨OK, hOK⟩ : ∃ v, o3.isSome = v := ⟨_, rfl⟩
  rw [hPV, hOK] at q4
  replace q4 := hide q4
  replace hPV := hide hPV
  replace hOK := hide hOK
  go_wp2_with fail
  refine (q4.out).mono ?_
  rintro e w2 ⟨rfl, rfl⟩
  go_upto_region 7 with fail
  refine wp_region_X (Below (w1.heap.size + 1)) (by as_aux_lemma => kernel_rfl) ?_
  intro w7 hbd
  have hbd2 := hb3.out.trans (hbd.mono (by omega))
  have hgd := blk_below hbd (by omega) hg2.out
  have hzd := hbd.size
  have la := fun l : RelW (Below (w1.heap.size + 1)) w7 => blk_cell (blk_below l.hk (by omega) hgd)
  have lc := fun l : RelW (Below (w1.heap.size + 1)) w7 => (l.hk.cell (p := ⟨b, off + 2, none⟩) (by dsimp only; omega)).trans ((hbd.cell (p := ⟨b, off + 2, none⟩) (by dsimp only; omega)).trans c2b)
  have h9 := h
  clear hb3 hg2 hbd q4 h c1 c2 c3 c2b c3b
  replace hbd2 := hide hbd2
  refine wpX_seg (Below (w1.heap.size + 1)) 0 7 (fuel := 2) (by as_aux_lemma => kernel_rfl) (fun d _ _ _ _ h => by cases d <;> exact h) (by as_aux_lemma => kernel_rfl) (by as_aux_lemma => kernel_rfl) ?_
  simp only [List.drop_zero, List.take_succ_cons, List.take_zero]
  iterate 4 (refine wpQX_step (fun K hK => ?_); go_simp; refine hK _ ?_; clear hK K)
  (refine wpQX_step (fun K hK => ?_); go_simp; apply Exists.intro; refine ⟨fun l => ?_, hK _ ?_⟩; (go_at_call 83; refine (qp.out l.w).mono ?_; rintro e w' ⟨rfl, hb⟩; exact ⟨rfl, hb.symm⟩); clear hK K)
  iterate 2 (refine wpQX_step (fun K hK => ?_); go_simp; refine hK _ ?_; clear hK K)
  refine wpQF_nil ?_
  clear la lc
  refine wpF_step 7 rfl (by as_aux_lemma => kernel_rfl) (fun K hK => ?_)
  go_simp
  refine hK _ _ ((Below.refl _ _).alloc (by omega) _) ?_
  clear hK K
  have hn8 := blk_new w7 77 #[.bool false, .int .u64 0, .int .u64 0, .int .i64 0, .int .i64 0, .int .i64 0, .bool false]
  obtain ⟨w8, hw8⟩ : ∃ w8, w7.alloc (.cells #[.bool false, .int .u64 0, .int .u64 0, .int .i64 0, .int .i64 0, .int .i64 0, .bool false] 77) = w8 := ⟨_, rfl⟩
  have hb8 : Below w7.heap.size w7 w8 := hw8 ▸ (Below.refl _ _).alloc (Nat.le_refl _) _
  obtain ⟨zv, hzv⟩ : ∃ zv, w7.heap.size = zv := ⟨_, rfl⟩
  change wpF _ _ _ _ _ _ _ _ (w7.alloc (.cells #[.bool false, .int .u64 0, .int .u64 0, .int .i64 0, .int .i64 0, .int .i64 0, .bool false] 77))
  rw [hw8] at hn8 ⊢
  have hz8 : zv < w8.heap.size := by rw [hzv] at hn8; exact lt_of_blk hn8
  clear hw8
  refine wpF_step 8 rfl (by as_aux_lemma => kernel_rfl) (fun K hK => ?_)
  rw [if_pos (by unfold Region.wanted; rfl)]
  refine wp_st 77 (.tmp 9) (.tmp 39) rfl w7.heap.size 0 rfl #[.bool v6, .int .u64 (hi : Int), .int .u64 (lo : Int), .int .i64 (p : Int), .int .i64 (PV : Int), .int .i64 1, .bool false] rfl hn8 (by simp) (by kernel_rfl) (vp_one _ _ _ _ _ _ _) fun w9 hg9 g9 => ?_
  refine hK _ _ (below_grown g9 (by omega) (by omega)) ?_
  clear hK K
  rw [putA_whole _ _ (by rfl)] at hg9
  have hb9 := hbd2.out.trans ((hb8.mono (by omega)).trans (below_grown g9 (by omega) (by omega)))
  have hz9 := lt_of_blk hg9
  clear hn8 hb8 g9 hbd2
  rw [hzv] at hg9 hz9
  refine wpF_done (by as_aux_lemma => kernel_rfl) ?_ 0
  rw [hzv]
  have hbz2 : z0 ≤ zv := by omega
  have kp : w9.cell? ⟨zv, 3, none⟩ = some (.int .i64 (p : Int)) := blk_cell hg9 3
  clear hzv hz1 hz2 hzd hz8
  replace hg9 := hide hg9
  replace hb9 := hide hb9
  by_cases hp0 : p = 0
  · subst hp0
    have hr4 : Except.error 4 = r := by
      rw [← hr.out]
      rcases o3 with _ | v
      · rfl
      · exact (if_pos rfl).symm
    clear hr
    replace hr4 := hide hr4
    go_wp2_with fail
    refine bodyPost_ret (v := .int .i64 4) (by simp [results, Tryd.results60, go_sem]) rfl ?_
    exact lineEnd_err hr4.out.symm (by decide) (by rw [hz0]; exact hb9.out)
  have tp : ((p : Int) == 0) = false := by rw [beq_eq_false_iff_ne]; omega
  have tp2 : ¬ (p : Int) = 0 := by omega
  cases OK
  · have hr4 : Except.error 4 = r := by
      rw [← hr.out]
      rcases o3 with _ | v
      · rfl
      · have := hOK.out; cases this
    clear hr
    replace hr4 := hide hr4
    go_wp2_with fail
    refine bodyPost_ret (v := .int .i64 4) (by simp [results, Tryd.results60, go_sem]) rfl ?_
    exact lineEnd_err hr4.out.symm (by decide) (by rw [hz0]; exact hb9.out)
  have ho4 : o3 = some PV := by
    rcases o3 with _ | v
    · have := hOK.out; cases this
    · have := hPV.out; exact congrArg some this
  subst ho4
  have hr4 := hr.out
  dsimp only at hr4
  rw [if_neg hp0] at hr4
  clear hr
  obtain ⟨R, hRd⟩ : ∃ R, List.drop 4 ws = R := ⟨_, rfl⟩
  rw [hRd] at hr4
  have hxR := hx4.out
  rw [hRd] at hxR
  have hlR : ∀ i, (wd R i).length ≤ 65536 := by
    intro i
    have := hlw.out (4 + i)
    unfold wd at this ⊢
    rw [← hRd, List.getD_eq_getElem?_getD, List.getElem?_drop, ← List.getD_eq_getElem?_getD]
    exact this
  clear hx4 hRd hp0
  have hcapm : m4 ≤ cap - 4 := by omega
  obtain ⟨c4, hc4⟩ : ∃ c4, cap - 4 = c4 := ⟨_, rfl⟩
  rw [hc4] at hcapm
  have hc4m : c4 ≤ maxLen := by omega
  replace hxR := hide hxR
  replace hlR := hide hlR
  replace hr4 := hide hr4
  go_upto_region 11 with fail
  clear kp
  obtain ⟨B1, hB1⟩ : ∃ B, decide (1 < m4 ∧ wd R 0 = wCopies) = B := ⟨_, rfl⟩
  go_cut [57] (fun bv wx => bv = .bool B1 ∧ w9 = wx)
  case first =>
    by_cases h1 : 1 < m4
    · obtain ⟨b4, o4, hA5, hb4, hcx⟩ := word_at hxR.out (by omega)
      have hb49 := hb9.out
      have d0 := (hb49.cell (p := ⟨b4, o4 + 0, none⟩) (by dsimp only; omega)).trans (hcx 0 (by omega))
      rw [Nat.add_zero] at d0
      have te := eqw (wd R 0) [99, 111, 112, 105, 101, 115]
      have hB2 : decide (wd R 0 = [99, 111, 112, 105, 101, 115]) = B1 := by
        rw [← hB1]
        apply Bool.eq_iff_iff.2
        simp only [decide_eq_true_iff]
        exact ⟨fun e => ⟨h1, e⟩, fun e => e.2⟩
      rw [hB2] at te
      have t1 : (1 : Int) < (m4 : Int) := by omega
      have t0 : (0 : Int) < (m4 : Int) := by omega
      clear hB2 hcx hb49 hB1 hA4
      subst hA5
      go_wp2_with fail
      go_meet
      exact ⟨rfl, rfl⟩
    · have hB2 : B1 = false := by
        rw [← hB1]
        exact decide_eq_false (fun e => h1 e.1)
      have t1 : ¬ (1 : Int) < (m4 : Int) := by omega
      subst hB2
      go_wp2_with fail
      go_meet
      exact ⟨rfl, rfl⟩
  case rest =>
  obtain ⟨rfl, rfl⟩ := hcut
  replace hB1 := hide hB1
  go_upto_if 57 with fail
  go_cut [10, 11, 12] (fun rv _ _ wx => ∃ (cp : Nat) (R2 : List (List UInt8)) (A2 : Option Addr) (m2 c2 : Nat), rv = .slice A2 m2 c2 ∧ copF R = some (cp, R2) ∧ IsR strv w base A2 m2 R2 ∧ m2 ≤ c2 ∧ c2 ≤ maxLen ∧ wx.heap[zv]? = some (.cells #[.bool v6, .int .u64 (hi : Int), .int .u64 (lo : Int), .int .i64 (p : Int), .int .i64 (PV : Int), .int .i64 (cp : Int), .bool false] 77 (0, 0)) ∧ Below z0 w wx)
  case first =>
    cases B1
    · have hC : copF R = some (1, R) := by
        unfold copF
        rw [if_neg (by have := hB1.out; have hl := hxR.out.len; rw [hl]; exact of_decide_eq_false this)]
      go_wp2_with fail
      go_meet
      exact ⟨1, R, A4, m4, c4, rfl, hC, hxR.out, hcapm, hc4m, hg9.out, hb9.out⟩
    · obtain ⟨h1, hw0⟩ := of_decide_eq_true hB1.out
      have hC : copF R = (match lexF (wd R 1) 8 with
          | none => none
          | some n => if n < 2 then none else some (n, R.drop 2)) := by
        unfold copF
        have hl := hxR.out.len
        rw [if_pos (by rw [hl]; exact ⟨h1, hw0⟩)]
        rfl
      obtain ⟨b4, o4, hA5, hb4, hcx⟩ := word_at hxR.out (by omega)
      have d1 := (hb9.out.cell (p := ⟨b4, o4 + 1, none⟩) (by dsimp only; omega)).trans (hcx 1 h1)
      have t1 : (1 : Int) < (m4 : Int) := by omega
      have t2 : (2 : Int) ≤ (m4 : Int) := by omega
      have t0 : (0 : Int) < (m4 : Int) := by omega
      have q5 := lexNum_any (wd R 1) (Nat.le_trans (hlR.out 1) (by decide)) 8 w9
      clear hcx hA4
      subst hA5
      have hx2 := isr_from hxR.out 2 (by omega) hcapm
      have hr5 := hr4.out
      rw [hC] at hr5
      clear hr4
      replace hC := hide hC
      rcases hq : lexF (wd R 1) 8 with _ | cp
      · rw [hq] at hr5 q5
        rw [lexV_none] at q5
        replace q5 := hide q5
        replace hr5 := hide hr5
        replace hq := hide hq
        go_wp2_with fail
        refine (q5.out).mono ?_
        rintro e w9 ⟨rfl, rfl⟩
        go_wp2_with fail
        refine bodyPost_ret (v := .int .i64 5) (by simp [results, Tryd.results60, go_sem]) rfl ?_
        exact lineEnd_err hr5.out.symm (by decide) (by rw [hz0]; exact hb9.out)
      · rw [hq] at hr5 q5
        rw [lexV_some] at q5
        dsimp only at hr5
        by_cases h2 : cp < 2
        · rw [if_pos h2] at hr5
          have t3 : (cp : Int) < 2 := by omega
          replace q5 := hide q5
          replace hr5 := hide hr5
          replace hq := hide hq
          go_wp2_with fail
          refine (q5.out).mono ?_
          rintro e w9 ⟨rfl, rfl⟩
          go_wp2_with fail
          refine bodyPost_ret (v := .int .i64 5) (by simp [results, Tryd.results60, go_sem]) rfl ?_
          exact lineEnd_err hr5.out.symm (by decide) (by rw [hz0]; exact hb9.out)
        · have hC2 : copF R = some (cp, R.drop 2) := by
            rw [hC.out, hq]
            exact if_neg h2
          have t3 : ¬ (cp : Int) < 2 := by omega
          clear hr5 hC
          replace hC2 := hide hC2
          obtain ⟨A2, hA2⟩ : ∃ A2, (if c4 = 2 then some ⟨b4, o4, none⟩ else some ⟨b4, o4 + 2, none⟩ : Option Addr) = A2 := ⟨_, rfl⟩
          obtain ⟨m2, hm2⟩ : ∃ m2, m4 - 2 = m2 := ⟨_, rfl⟩
          obtain ⟨c2', hc2⟩ : ∃ c2, c4 - 2 = c2 := ⟨_, rfl⟩
          have hfit : m2 ≤ c2' ∧ c2' ≤ maxLen := by omega
          rw [hA2, hm2] at hx2
          replace q5 := hide q5
          replace hq := hide hq
          replace hx2 := hide hx2
          replace hfit := hide hfit
          go_wp2_with fail
          refine (q5.out).mono ?_
          rintro e w9 ⟨rfl, rfl⟩
          go_upto_region 15 with fail
          refine wp_region_X (KeptS w9.heap.size (fun k => k = zv)) (by as_aux_lemma => kernel_rfl) ?_
          intro w7 hbd
          have hb7 := hb9.out.trans (hbd.mono (by have := hb9.out.size; omega))
          have hg7 := blk_below hbd hz9 hg9.out
          have hz7 := hbd.size
          obtain ⟨w6, hw6⟩ : ∃ w6, w7.setCell ⟨zv, 5, none⟩ (.int .i64 (cp : Int)) = w6 := ⟨_, rfl⟩
          have hk6 : KeptS w9.heap.size (fun k => k = zv) w7 w6 := hw6 ▸ keptS_set (P := fun k => k = zv) (keptS_refl w9.heap.size (fun k => k = zv) w7) (p := ⟨zv, 5, none⟩) rfl _
          have hg6 : w6.heap[zv]? = some (.cells #[.bool v6, .int .u64 (hi : Int), .int .u64 (lo : Int), .int .i64 (p : Int), .int .i64 (PV : Int), .int .i64 (cp : Int), .bool false] 77 (0, 0)) := hw6 ▸ blk_set hg7 5 _
          have hb6 : Below z0 w w6 := hw6 ▸ hb7.setCell (p := ⟨zv, 5, none⟩) hbz2 _
          have hca := blk_cell hg7 5
          have hfa := blk_free hg7 5
          clear hb7 hg7
          replace hk6 := hide hk6
          replace hg6 := hide hg6
          replace hb6 := hide hb6
          refine wpX_seg (KeptS w9.heap.size (fun k => k = zv)) 0 4 (fuel := 2) (by as_aux_lemma => kernel_rfl) (fun d _ _ _ _ h => by cases d <;> exact h) (by as_aux_lemma => kernel_rfl) (by as_aux_lemma => kernel_rfl) ?_
          simp only [List.drop_zero, List.take_succ_cons, List.take_zero]
          iterate 4 (refine wpQX_step (fun K hK => ?_); go_simp; refine hK _ ?_; clear hK K)
          refine wpQF_nil ?_
          refine wpF_step 4 rfl (by as_aux_lemma => kernel_rfl) (fun K hK => ?_)
          go_simp
          refine hK _ _ hk6.out ?_
          clear hK K hca hfa hw6
          refine wpF_step 5 rfl (by as_aux_lemma => kernel_rfl) (fun K hK => ?_)
          go_simp
          refine hK _ _ (IsRel.refl _) ?_
          clear hK K
          refine wpF_done (by as_aux_lemma => kernel_rfl) ?_ 0
          go_wp2_with fail
          go_meet
          exact ⟨cp, R.drop 2, A2, m2, c2', rfl, hC2.out, hx2.out, hfit.out.1, hfit.out.2, hg6.out, hb6.out⟩
  case rest =>
  obtain ⟨cp, R2, A2, m2, c2', rfl, hC, hx2, hm2, hc2, hgc, hbc⟩ := hcut
  have hr5 := hr4.out
  rw [hC] at hr5
  dsimp only at hr5
  clear hg9 hb9 hr4 hxR hB1 hC
  have hzc := lt_of_blk hgc
  have hlR2 : True := trivial
  replace hx2 := hide hx2
  replace hgc := hide hgc
  replace hbc := hide hbc
  replace hr5 := hide hr5
  go_upto_region 16 with fail
  obtain ⟨B3, hB3⟩ : ∃ B, decide (0 < m2 ∧ wd R2 0 = wNat) = B := ⟨_, rfl⟩
  go_cut [83] (fun bv wx => bv = .bool B3 ∧ wc = wx)
  case first =>
    by_cases h1 : 0 < m2
    · obtain ⟨b4, o4, hA5, hb4, hcx⟩ := word_at hx2.out (by omega)
      have d0 := (hbc.out.cell (p := ⟨b4, o4 + 0, none⟩) (by dsimp only; omega)).trans (hcx 0 (by omega))
      rw [Nat.add_zero] at d0
      have te := eqw (wd R2 0) [110, 97, 116]
      have hB2 : decide (wd R2 0 = [110, 97, 116]) = B3 := by
        rw [← hB3]
        apply Bool.eq_iff_iff.2
        simp only [decide_eq_true_iff]
        exact ⟨fun e => ⟨h1, e⟩, fun e => e.2⟩
      rw [hB2] at te
      have t0 : (0 : Int) < (m2 : Int) := by omega
      clear hB2 hcx hB3
      subst hA5
      go_wp2_with fail
      go_meet
      exact ⟨rfl, rfl⟩
    · have hB2 : B3 = false := by
        rw [← hB3]
        exact decide_eq_false (fun e => h1 e.1)
      have t1 : ¬ (0 : Int) < (m2 : Int) := by omega
      subst hB2
      go_wp2_with fail
      go_meet
      exact ⟨rfl, rfl⟩
  case rest =>
  obtain ⟨rfl, rfl⟩ := hcut
  replace hB3 := hide hB3
  go_upto_if 83 with fail
  go_cut [10] (fun rv wx => ∃ (nt : Bool) (R3 : List (List UInt8)) (A3 : Option Addr) (m3 c3 : Nat), rv = .slice A3 m3 c3 ∧ natF R2 = (nt, R3) ∧ R3.length = m3 ∧ wx.heap[zv]? = some (.cells #[.bool v6, .int .u64 (hi : Int), .int .u64 (lo : Int), .int .i64 (p : Int), .int .i64 (PV : Int), .int .i64 (cp : Int), .bool nt] 77 (0, 0)) ∧ Below z0 w wx)
  case first =>
    cases B3
    · have hN : natF R2 = (false, R2) := by
        unfold natF
        rw [if_neg (by have := hB3.out; have hl := hx2.out.len; rw [hl]; exact of_decide_eq_false this)]
      go_wp2_with fail
      go_meet
      exact ⟨false, R2, A2, m2, c2', rfl, hN, hx2.out.len, hgc.out, hbc.out⟩
    · obtain ⟨h1, hw0⟩ := of_decide_eq_true hB3.out
      have hN : natF R2 = (true, R2.drop 1) := by
        unfold natF
        have hl := hx2.out.len
        rw [if_pos (by rw [hl]; exact ⟨h1, hw0⟩)]
      obtain ⟨b4, o4, hA5, hb4, -⟩ := word_at hx2.out (by omega)
      have t1 : (1 : Int) ≤ (m2 : Int) := by omega
      subst hA5
      have hx3 := isr_from hx2.out 1 (by omega) hm2
      obtain ⟨A3, hA3⟩ : ∃ A3, (if c2' = 1 then some ⟨b4, o4, none⟩ else some ⟨b4, o4 + 1, none⟩ : Option Addr) = A3 := ⟨_, rfl⟩
      obtain ⟨m3, hm3⟩ : ∃ m3, m2 - 1 = m3 := ⟨_, rfl⟩
      obtain ⟨c3, hc3⟩ : ∃ c3, c2' - 1 = c3 := ⟨_, rfl⟩
      rw [hA3, hm3] at hx3
      replace hx3 := hide hx3
      replace hN := hide hN
      go_upto_region 17 with fail
      refine wp_region_X (KeptS wc.heap.size (fun k => k = zv)) (by as_aux_lemma => kernel_rfl) ?_
      intro w7 hbd
      have hb7 := hbc.out.trans (hbd.mono (by have := hbc.out.size; omega))
      have hg7 := blk_below hbd hzc hgc.out
      have hz7 := hbd.size
      obtain ⟨w6, hw6⟩ : ∃ w6, w7.setCell ⟨zv, 6, none⟩ (.bool true) = w6 := ⟨_, rfl⟩
      have hk6 : KeptS wc.heap.size (fun k => k = zv) w7 w6 := hw6 ▸ keptS_set (P := fun k => k = zv) (keptS_refl wc.heap.size (fun k => k = zv) w7) (p := ⟨zv, 6, none⟩) rfl _
      have hg6 : w6.heap[zv]? = some (.cells #[.bool v6, .int .u64 (hi : Int), .int .u64 (lo : Int), .int .i64 (p : Int), .int .i64 (PV : Int), .int .i64 (cp : Int), .bool true] 77 (0, 0)) := hw6 ▸ blk_set hg7 6 _
      have hb6 : Below z0 w w6 := hw6 ▸ hb7.setCell (p := ⟨zv, 6, none⟩) hbz2 _
      have hca := blk_cell hg7 6
      have hfa := blk_free hg7 6
      clear hb7 hg7
      replace hk6 := hide hk6
      replace hg6 := hide hg6
      replace hb6 := hide hb6
      refine wpX_seg (KeptS wc.heap.size (fun k => k = zv)) 0 3 (fuel := 2) (by as_aux_lemma => kernel_rfl) (fun d _ _ _ _ h => by cases d <;> exact h) (by as_aux_lemma => kernel_rfl) (by as_aux_lemma => kernel_rfl) ?_
      simp only [List.drop_zero, List.take_succ_cons, List.take_zero]
      iterate 3 (refine wpQX_step (fun K hK => ?_); go_simp; refine hK _ ?_; clear hK K)
      refine wpQF_nil ?_
      refine wpF_step 3 rfl (by as_aux_lemma => kernel_rfl) (fun K hK => ?_)
      go_simp
      refine hK _ _ hk6.out ?_
      clear hK K hca hfa hw6
      refine wpF_step 4 rfl (by as_aux_lemma => kernel_rfl) (fun K hK => ?_)
      go_simp
      refine hK _ _ (IsRel.refl _) ?_
      clear hK K
      refine wpF_done (by as_aux_lemma => kernel_rfl) ?_ 0
      go_wp2_with fail
      go_meet
      exact ⟨true, R2.drop 1, A3, m3, c3, rfl, hN.out, hx3.out.len, hg6.out, hb6.out⟩
  case rest =>
  obtain ⟨nt, R3, A3, m3, c3, rfl, hN, hR3, hgn, hbn⟩ := hcut
  have hr6 := hr5.out
  rw [hN] at hr6
  dsimp only at hr6
  rw [hR3] at hr6
  clear hgc hbc hr5 hx2 hB3 hN
  have hzn := lt_of_blk hgn
  by_cases hm0 : 0 < m3
  · rw [if_pos hm0] at hr6
    have t1 : (0 : Int) < (m3 : Int) := by omega
    clear hgn
    replace hbn := hide hbn
    replace hr6 := hide hr6
    go_wp2_with fail
    refine bodyPost_ret (v := .int .i64 4) (by simp [results, Tryd.results60, go_sem]) rfl ?_
    exact lineEnd_err hr6.out.symm (by decide) (by rw [hz0]; exact hbn.out)
  rw [if_neg hm0] at hr6
  have t1 : ¬ (0 : Int) < (m3 : Int) := by omega
  have h2 := h9.out.on (by rw [hz0]; exact hbn)
  replace hgn := hide hgn
  replace hbn := hide hbn
  replace hr6 := hide hr6
  replace h2 := hide h2
  go_upto_region 20 with fail
  have hrx := row_not_x h2.out.cfg.vips h2.out.cfg.blk h2.out.cfg.hT.2.1
  have hrz : vv.ownBlock = some zv → False := fun e => by have := (World.ownsRow.lt h9.out.cfg.vips _ e).2; omega
  refine wp_region_Y [12] (KeptS wc.heap.size (fun k => vv.ownBlock = some k)) (by as_aux_lemma => kernel_rfl) ?_
  intro we hbe
  have hLe := h2.out.on hbe
  have hge := blk_below hbe hzn hgn.out
  have hBe := (hbn.out.mono hbz).trans (hbe.mono (by have := hbn.out.size; omega))
  have ze := hbe.size
  have lx := fun l : RelW (KeptS wc.heap.size (fun k => vv.ownBlock = some k)) we => (show l.w.cell? ⟨x, 1, none⟩ = some vv from blk_cell ((l.hk.block x h2.out.xlt (by rcases hrx with e | e <;> (intro e2; first | (rw [e] at e2; cases e2) | exact e e2))).trans hLe.cfg.blk) 1)
  have lz := fun l : RelW (KeptS wc.heap.size (fun k => vv.ownBlock = some k)) we => blk_cell ((l.hk.block zv hzn hrz).trans hge)
  clear h2 hgn hbn hbe hrx hrz
  replace hLe := hide hLe
  replace hBe := hide hBe
  refine wpY_seg [12] (KeptS wc.heap.size (fun k => vv.ownBlock = some k)) 0 7 (fuel := 6) (by as_aux_lemma => kernel_rfl) (fun d _ _ _ _ h => by cases d <;> exact h) (by as_aux_lemma => kernel_rfl) (by as_aux_lemma => kernel_rfl) (by as_aux_lemma => kernel_rfl) ?_
  simp only [List.drop_zero, List.take_succ_cons, List.take_zero]
  iterate 7 (refine wpQX_step (fun K hK => ?_); go_simp; refine hK _ ?_; clear hK K)
  refine wpQF_nil ?_
  clear lx lz hge
  refine wpW_step 7 rfl (by as_aux_lemma => kernel_rfl) (fun K hK => ?_)
  go_simp
  refine hK _ _ (relY_of (keptS_of_below ((Below.refl _ _).alloc (Nat.le_refl _) _) ze)) ?_
  clear hK K
  obtain ⟨w10, hw10⟩ : ∃ w10, we.alloc (.cells (vpC ⟨⟨v6, hi, lo⟩, (p : Int), (PV : Int), (cp : Int), nt⟩).toArray 77) = w10 := ⟨_, rfl⟩
  have hb10 : Below we.heap.size we w10 := hw10 ▸ (Below.refl _ _).alloc (Nat.le_refl _) _
  have hn10 : w10.heap[we.heap.size]? = some (.cells (vpC ⟨⟨v6, hi, lo⟩, (p : Int), (PV : Int), (cp : Int), nt⟩).toArray 77 (0, 0)) := hw10 ▸ blk_new _ _ _
  change wpW _ _ _ _ _ _ _ _ (we.alloc (.cells (vpC ⟨⟨v6, hi, lo⟩, (p : Int), (PV : Int), (cp : Int), nt⟩).toArray 77))
  rw [hw10]
  have hL10 := hLe.out.on hb10
  have hB10 := hBe.out.trans (hb10.mono (by have := hLe.out.xlt; omega))
  have z10 := hb10.size
  clear hw10 hb10 hLe hBe
  refine wpW_step 8 rfl (by as_aux_lemma => kernel_rfl) (fun K hK => ?_)
  rw [if_pos (by unfold Region.wanted; rfl)]
  refine wp_app_c (T := 77) Tryd.underlying23 info_vp rfl (by decide) (by decide) (.tmp 95) (.tmp 97) rfl base vv c.vips.length _ (vpC ⟨⟨v6, hi, lo⟩, (p : Int), (PV : Int), (cp : Int), nt⟩) we.heap.size rfl rfl hL10.cfg.vips hn10 rfl (vpC_one _) (by have := hL10.xlt; omega) (by have := hs.2.1; omega) fun v11 w11 h1 h2 => hK _ _ (relY_of ⟨h2.grown.os, h2.grown.tape, h2.grown.output, h2.grown.size, fun k hk hne => h2.grown.block k (by omega) (fun e => hne e.symm)⟩) ?_
  clear hK K hn10
  obtain ⟨A11, c11, hv11, -, -, -⟩ := own_isv h1
  subst hv11
  obtain ⟨hx11, hL12⟩ := hL10.pushV h1 h2
  have hB11 := hB10.trans (below_of_grown h2.grown (by have := hL10.xlt; omega) (fun k hk => (World.ownsRow.lt hL10.cfg.vips _ hk).1))
  have hB12 : Below base w (w11.setCell ⟨x, 1, none⟩ (.slice A11 (c.vips.length + 1) c11)) := hB11.setCell (p := ⟨x, 1, none⟩) hbx _
  have hc : w11.cell? ⟨x, 1, none⟩ = some vv := blk_cell hx11 1
  have hf := blk_free hx11 1
  clear h1 h2 hL10 hB10 hB11 hx11
  obtain ⟨w12, hw12⟩ : ∃ w12, w11.setCell ⟨x, 1, none⟩ (.slice A11 (c.vips.length + 1) c11) = w12 := ⟨_, rfl⟩
  rw [hw12] at hL12 hB12
  replace hL12 := hide hL12
  replace hB12 := hide hB12
  refine wpW_step 9 rfl (by as_aux_lemma => kernel_rfl) (fun K hK => ?_)
  go_simp
  refine hK _ _ (relY_of (IsRel.refl _)) ?_
  clear hK K
  refine wpW_step 10 rfl (by as_aux_lemma => kernel_rfl) (fun K hK => ?_)
  go_simp
  refine hK _ _ (relY_of (IsRel.refl _)) ?_
  clear hK K
  refine wpW_step 11 rfl (by as_aux_lemma => kernel_rfl) (fun K hK => ?_)
  go_simp
  refine hK _ _ (relY_of (IsRel.refl _)) ?_
  clear hK K
  refine wpW_step 12 rfl (by as_aux_lemma => kernel_rfl) (fun K hK => ?_)
  go_simp
  refine hK _ _ (relY_wr (by as_aux_lemma => kernel_rfl)) ?_
  clear hK K hc hf hw12
  refine wpW_done (by as_aux_lemma => kernel_rfl) ?_ _
  go_wp2_with fail
  refine bodyPost_ret (v := .int .i64 0) (by simp [results, Tryd.results60, go_sem]) rfl ?_
  exact lineEnd_ok hr6.out.symm ⟨mb, ma, nv, _, wv, hL12.out⟩ hB12.out
end Conf18
end Go.Proofs.YtcpokkkdmenmgaaDoor
