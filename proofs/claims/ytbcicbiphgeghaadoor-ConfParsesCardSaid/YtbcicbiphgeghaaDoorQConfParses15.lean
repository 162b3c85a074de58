/- conf, the law: find: the place of a name. No condition. -/
import Derived.Test.YtbcicbiphgeghaaDoorQConfParses14
import Derived.Test.YtbcicbiphgeghaaDoorQConfParses11
namespace Go.Proofs.YtbcicbiphgeghaaDoor
open Go.RowKit Go.ChangeShapes Go.WideShapes Go.ChangeAt Go.Deep
namespace Conf18
open Addr05
def findI (o : Option Nat) : Int := match o with | some k => (k : Int) | none => -1
set_option maxRecDepth 20000 in
set_option maxHeartbeats 8000000 in
theorem find_any (s : List UInt8) (c : Cfg) (w : World) (base x mb ma : Nat) (nv vv wv : Value) (h : PlC w base x mb ma c nv vv wv) (hs : c.small 4096) :
    Calls Tryd.prog 123 #[.pointer (some ⟨x, 0, none⟩), .string (str s)] w fun e w' => e = .returned (.int .i64 (findI (atN c.nodes s))) ∧ w' = w := by
  obtain ⟨A, cn, hnv, h1, h2, hv⟩ := own_isv h.cfg.nodes
  have hT : IsT ndC 7 w w.heap.size A c.nodes.length c.nodes := ⟨rfl, hv⟩
  have k0 : w.cell? ⟨x, 0, none⟩ = some nv := blk_cell h.cfg.blk 0
  subst hnv
  obtain ⟨X, hX⟩ : ∃ X, findI (atN c.nodes s) = X := ⟨_, rfl⟩
  have hX1 : ∀ (k : Nat) (nd : Nd), c.nodes[k]? = some nd → nd.name = s → (∀ (j : Nat) (nd' : Nd), j < k → c.nodes[j]? = some nd' → nd'.name ≠ s) → X = (k : Int) := by
    intro k nd hk h3 h4
    obtain ⟨hkl, hke⟩ := List.getElem?_eq_some_iff.1 hk
    have e : atN c.nodes s = some k := by
      unfold atN
      rw [List.findIdx?_eq_some_iff_getElem]
      refine ⟨hkl, by rw [hke]; simp [h3], fun j hj => ?_⟩
      have := h4 j _ hj (List.getElem?_eq_getElem (by omega))
      simpa using this
    rw [← hX, e]; rfl
  have hX2 : (∀ (j : Nat) (nd' : Nd), c.nodes[j]? = some nd' → nd'.name ≠ s) → X = -1 := by
    intro h4
    have e : atN c.nodes s = none := by
      unfold atN
      rw [List.findIdx?_eq_none_iff]
      intro nd hn
      obtain ⟨j, hj⟩ := List.mem_iff_getElem?.1 hn
      simpa using h4 j nd hj
    rw [← hX, e]; rfl
  rw [hX]
  have hn4 := hs.1
  obtain ⟨n, hn⟩ : ∃ n, c.nodes.length = n := ⟨_, rfl⟩
  rw [hn] at hT k0 hn4 h1
  clear h hv hX hn
  replace hT := hide hT
  replace hX1 := hide hX1
  replace hX2 := hide hX2
  go_enter Tryd.func123, Tryd.ntmps123
  go_wp2_with fail
  go_loopw [4, 5] (fun _ iv wr => ∃ i : Nat, i ≤ n ∧ iv = .int .i64 (i : Int) ∧ (∀ (j : Nat) (nd' : Nd), j < i → c.nodes[j]? = some nd' → nd'.name ≠ s) ∧ w = wr) (fun _ iv _ => n - (intOf iv).toNat)
  case atStart => exact ⟨0, by omega, rfl, fun j nd hj => by omega, rfl⟩
  case round =>
    obtain ⟨i, hi, rfl, hno, rfl⟩ := hrel
    by_cases hin : i < n
    · have hlt : (i : Int) < (n : Int) := by omega
      obtain ⟨b, off, nd, rfl, hbk, hni, hcell⟩ := IsT.at (f := ndC) (size := 7) (fun _ => rfl) (by decide) hT.out hin
      have kc : w.cell? ⟨b, off + i * 7, none⟩ = some (.string (str nd.name)) := hcell 0 _ rfl
      have te := eqw nd.name s
      have hst : (str s).toList = s := by simp [str, ByteArray.toList_eq]
      have wi1 : IntKind.i64.wrap ((i : Int) + 1) = ((i + 1 : Nat) : Int) := by rw [wraps62 _ (by omega) (by omega)]; omega
      clear hcell
      rw [← hst] at te
      have te2 : ((str nd.name).toList == (str s).toList) = decide (nd.name = s) := by
        rw [te]
        congr 1
        rw [hst]
      clear te hst
      by_cases he : nd.name = s
      · rw [decide_eq_true he] at te2
        have hXi := hX1.out i nd hni he hno
        clear hno
        replace hXi := hide hXi
        replace hni := hide hni
        clear he
        go_wp2_with fail
        go_ret
        exact ⟨by rw [hXi.out]; rfl, rfl⟩
      · rw [decide_eq_false he] at te2
        have hno2 : ∀ (j : Nat) (nd' : Nd), j < i + 1 → c.nodes[j]? = some nd' → nd'.name ≠ s := by
          intro j nd' hj hd
          by_cases hji : j = i
          · subst hji
            obtain rfl := Option.some.inj (hni.symm.trans hd)
            exact he
          · exact hno j nd' (by omega) hd
        clear hno he
        replace hno2 := hide hno2
        replace hni := hide hni
        go_wp2_with fail
        exact ⟨⟨i + 1, by omega, by first | rfl | go_num, hno2.out, by first | rfl | trivial⟩, by simp only [intOf]; omega⟩
    · obtain rfl : i = n := by omega
      have hlt : ((i : Int) < (i : Int)) = False := by simp
      have hXn := hX2.out (fun j nd' hd => by
        by_cases hj : j < i
        · exact hno j nd' hj hd
        · have h5 := (List.getElem?_eq_some_iff.1 hd).1
          have h6 := hT.out.1
          omega)
      clear hno
      replace hXn := hide hXn
      go_wp2_with fail
      go_ret
      exact ⟨by rw [hXn.out]; rfl, rfl⟩
end Conf18
end Go.Proofs.YtbcicbiphgeghaaDoor
/- conf, the law: node: a line of 2 words, of kind 1. Conditions: words of at most 2^16 bytes. -/
namespace Go.Proofs.YtbcicbiphgeghaaDoor
open Go.RowKit Go.ChangeShapes Go.WideShapes Go.ChangeAt Go.Deep
namespace Conf18
open Addr05
set_option maxRecDepth 20000 in
set_option maxHeartbeats 16000000 in
theorem lnode21_any (y0 y1 : List UInt8) (c : Cfg) (w : World) (base x b off cap : Nat) (hb : b < base) (c0 : w.cell? ⟨b, off, none⟩ = some (.string (str y0))) (c1 : w.cell? ⟨b, off + 1, none⟩ = some (.string (str y1))) (l0 : y0.length ≤ 65536) (l1 : y1.length ≤ 65536) (hm : MaxAt w) (hs : c.small 4096) (hR : PlAt base x w c) :
    Calls Tryd.prog 96 #[.pointer (some ⟨x, 0, none⟩), .slice (some ⟨b, off, none⟩) 2 cap, .int .i64 1] w fun e w' => LineEnd (PlAt base x) base (nodeF 1 c [y0, y1]) w w' e := by
  obtain ⟨r, hr⟩ : ∃ r, nodeF 1 c [y0, y1] = r := ⟨_, rfl⟩
  rw [hr]
  unfold nodeF at hr
  rw [if_neg (by simp only [List.length_cons, List.length_nil]; decide)] at hr
  rw [show aboveF c [y0, y1] = some (-1) from rfl, show weightF 1 [y0, y1] = some 0 from rfl, show nadrF [y0, y1] = some zA from rfl] at hr
  rw [show wd [y0, y1] 1 = y1 from rfl] at hr
  obtain ⟨mb, ma, nv, vv, wv, h⟩ := hR
  have hbx := h.cfg.hx
  have hxs := h.xlt
  obtain ⟨z, hz⟩ : ∃ z, w.heap.size = z := ⟨_, rfl⟩
  have hbz : base ≤ z := by omega
  obtain ⟨o1, ho1⟩ : ∃ o, atN c.nodes y1 = o := ⟨_, rfl⟩
  rw [ho1] at hr
  have qf1 := fun (w' : World) (hb : Below w.heap.size w w') => find_any y1 c w' base x mb ma nv vv wv (h.on hb) hs
  rw [ho1, hz] at qf1
  replace h := hide h
  replace hr := hide hr
  replace qf1 := hide qf1
  replace ho1 := hide ho1
  replace hm := hide hm
  go_enter Tryd.func96, Tryd.ntmps96
  go_upto_region 3 with fail
  apply wp_region_lit
  iterate 5 (refine wpList_plain rfl fun K hK => ?_; go_simp; refine hK _ _ ?_; clear hK K)
  refine wpl_new rfl rfl 148 _ (alloc_nd _ rfl) 7 rfl (.tmp 50) rfl _ (fun _ => rfl) (fun _ => rfl) rfl (by kernel_rfl) (nd_one (str y1) 1 (-1) 0 false 0 0) ?_
  intro w1 hg1 hb1 hz1
  rw [hz] at hg1 hb1 hz1
  refine wpList_nil ?_
  go_simp
  have kz : w1.cell? ⟨z, 0, none⟩ = some (.string (str y1)) := blk_cell hg1 0
  have q1 := qf1.out w1 hb1
  clear qf1
  replace hb1 := hide hb1
  replace hg1 := hide hg1
  rcases o1 with _ | j1
  · change Calls _ _ _ _ (fun e w' => e = .returned (.int .i64 (-1)) ∧ w' = w1) at q1
    replace q1 := hide q1
    go_wp2_with fail
    refine (q1.out).mono ?_
    rintro e w1 ⟨rfl, rfl⟩
    go_upto_region 20 with fail
    clear kz q1
    have hN := h.out.on (by rw [hz]; exact hb1.out)
    have hbb := hb1.out.mono hbz
    have hrx := row_not_x hN.cfg.nodes hN.cfg.blk hN.cfg.hT.1
    have hrz : nv.ownBlock = some z → False := fun e => by have := (World.ownsRow.lt h.out.cfg.nodes _ e).2; omega
    refine wp_region_Y [12] (KeptS w1.heap.size (fun k => nv.ownBlock = some k)) (by as_aux_lemma => kernel_rfl) ?_
    intro w2 hbd
    have hN2 := hN.on hbd
    have hge := blk_below hbd hz1 hg1.out
    have hbe := hbb.trans (hbd.mono (by omega))
    have ze := hbd.size
    have lx := fun l : RelW (KeptS w1.heap.size (fun k => nv.ownBlock = some k)) w2 => (show l.w.cell? ⟨x, 0, none⟩ = some nv from blk_cell ((l.hk.block x hN.xlt (by rcases hrx with e | e <;> (intro e2; first | (rw [e] at e2; cases e2) | exact e e2))).trans hN2.cfg.blk) 0)
    have lz := fun l : RelW (KeptS w1.heap.size (fun k => nv.ownBlock = some k)) w2 => blk_cell ((l.hk.block z hz1 hrz).trans hge)
    clear hN hg1 hbb hbd hrx hrz
    replace hN2 := hide hN2
    replace hbe := hide hbe
    refine wpY_seg [12] (KeptS w1.heap.size (fun k => nv.ownBlock = some k)) 0 7 (fuel := 6) (by as_aux_lemma => kernel_rfl) (fun d _ _ _ _ h => by cases d <;> exact h) (by as_aux_lemma => kernel_rfl) (by as_aux_lemma => kernel_rfl) (by as_aux_lemma => kernel_rfl) ?_
    simp only [List.drop_zero, List.take_succ_cons, List.take_zero]
    iterate 7 (refine wpQX_step (fun K hK => ?_); go_simp; refine hK _ ?_; clear hK K)
    refine wpQF_nil ?_
    clear lx lz hge
    obtain ⟨ND, hND⟩ : ∃ ND : Nd, ND = ⟨y1, 1, (-1), 0, zA⟩ := ⟨_, rfl⟩
    have hC : ndC ND = [.string (str y1), .int .i64 1, .int .i64 (-1), .int .i64 0, .bool false, .int .u64 0, .int .u64 0] := by rw [hND]; rfl
    refine wpW_step 7 rfl (by as_aux_lemma => kernel_rfl) (fun K hK => ?_)
    go_simp
    refine hK _ _ (relY_of (keptS_of_below ((Below.refl _ _).alloc (Nat.le_refl _) _) ze)) ?_
    clear hK K
    obtain ⟨wt, hwt⟩ : ∃ wt, w2.alloc (.cells (ndC ND).toArray 148) = wt := ⟨_, rfl⟩
    have hbt : Below w2.heap.size w2 wt := hwt ▸ (Below.refl _ _).alloc (Nat.le_refl _) _
    have hnt : wt.heap[w2.heap.size]? = some (.cells (ndC ND).toArray 148 (0, 0)) := hwt ▸ blk_new _ _ _
    rw [hC] at hwt
    change wpW _ _ _ _ _ _ _ _ (w2.alloc (.cells ([.string (str y1), .int .i64 1, .int .i64 (-1), .int .i64 0, .bool false, .int .u64 0, .int .u64 0]).toArray 148))
    rw [hwt]
    have hNt := hN2.out.on hbt
    have hbf := hbe.out.trans (hbt.mono (by omega))
    have zt := hbt.size
    clear hwt hbt hN2 hbe
    refine wpW_step 8 rfl (by as_aux_lemma => kernel_rfl) (fun K hK => ?_)
    rw [if_pos (by unfold Region.wanted; rfl)]
    refine wp_app_c (T := 148) Tryd.underlying68 info_nd rfl (by decide) (by decide) (.tmp 108) (.tmp 110) rfl base _ c.nodes.length _ (ndC ND) w2.heap.size rfl rfl hNt.cfg.nodes hnt rfl (ndC_one _) (by omega) (by have := hs.1; omega) fun v11 w11 h1 h2 => hK _ _ (relY_of ⟨h2.grown.os, h2.grown.tape, h2.grown.output, h2.grown.size, fun k hk hne => h2.grown.block k (by omega) (fun e => hne e.symm)⟩) ?_
    clear hK K hnt
    obtain ⟨A11, c11, hv11, -, -, -⟩ := own_isv h1
    subst hv11
    obtain ⟨hx11, hL12⟩ := hNt.pushN h1 h2
    have hB11 := hbf.trans (below_of_grown h2.grown (by omega) (fun k hk => (World.ownsRow.lt hNt.cfg.nodes _ hk).1))
    have hB12 : Below base w (w11.setCell ⟨x, 0, none⟩ (.slice A11 (c.nodes.length + 1) c11)) := hB11.setCell (p := ⟨x, 0, none⟩) hbx _
    have hc : w11.cell? ⟨x, 0, none⟩ = some nv := blk_cell hx11 0
    have hf := blk_free hx11 0
    clear h1 h2 hNt hbf hB11 hx11
    obtain ⟨w12, hw12⟩ : ∃ w12, w11.setCell ⟨x, 0, none⟩ (.slice A11 (c.nodes.length + 1) c11) = w12 := ⟨_, rfl⟩
    rw [hw12] at hL12 hB12
    replace hL12 := hide hL12
    replace hB12 := hide hB12
    replace hND := hide hND
    replace hC := hide hC
    refine wpW_step 9 rfl (by as_aux_lemma => kernel_rfl) (fun K hK => ?_)
    go_simp
    refine hK _ _ (relY_of (IsRel.refl _)) ?_
    clear hK K
    refine wpW_step 10 rfl (by as_aux_lemma => kernel_rfl) (fun K hK => ?_)
    go_simp
    refine hK _ _ (relY_of (IsRel.refl _)) ?_
    clear hK K
    refine wpW_step 11 rfl (by as_aux_lemma => kernel_rfl) (fun K hK => ?_)
    go_simp
    refine hK _ _ (relY_of (IsRel.refl _)) ?_
    clear hK K
    refine wpW_step 12 rfl (by as_aux_lemma => kernel_rfl) (fun K hK => ?_)
    go_simp
    refine hK _ _ (relY_wr (by as_aux_lemma => kernel_rfl)) ?_
    clear hK K hc hf hw12
    refine wpW_done (by as_aux_lemma => kernel_rfl) ?_ _
    go_wp2_with fail
    refine bodyPost_ret (v := .int .i64 0) (by simp [results, Tryd.results96, go_sem]) rfl ?_
    have hL := hL12.out
    rw [hND.out] at hL
    exact lineEnd_ok hr.out.symm ⟨mb, ma, _, vv, wv, hL⟩ hB12.out
  change Calls _ _ _ _ (fun e w' => e = .returned (.int .i64 (j1 : Int)) ∧ w' = w1) at q1
  have tj1 : (0 : Int) ≤ (j1 : Int) := by omega
  replace q1 := hide q1
  go_wp2_with fail
  refine (q1.out).mono ?_
  rintro e w1 ⟨rfl, rfl⟩
  go_wp2_with fail
  refine bodyPost_ret (v := .int .i64 8) (by simp [results, Tryd.results96, go_sem]) rfl ?_
  exact lineEnd_err hr.out.symm (by decide) (by rw [hz]; exact hb1.out)
end Conf18
end Go.Proofs.YtbcicbiphgeghaaDoor
/- conf, the law: node: a line of 3 words, of kind 2. Conditions: words of at most 2^16 bytes. -/
namespace Go.Proofs.YtbcicbiphgeghaaDoor
open Go.RowKit Go.ChangeShapes Go.WideShapes Go.ChangeAt Go.Deep
namespace Conf18
open Addr05
set_option maxRecDepth 20000 in
set_option maxHeartbeats 16000000 in
theorem lnode32_any (y0 y1 y2 : List UInt8) (c : Cfg) (w : World) (base x b off cap : Nat) (hb : b < base) (c0 : w.cell? ⟨b, off, none⟩ = some (.string (str y0))) (c1 : w.cell? ⟨b, off + 1, none⟩ = some (.string (str y1))) (c2 : w.cell? ⟨b, off + 2, none⟩ = some (.string (str y2))) (l0 : y0.length ≤ 65536) (l1 : y1.length ≤ 65536) (l2 : y2.length ≤ 65536) (hm : MaxAt w) (hs : c.small 4096) (hR : PlAt base x w c) :
    Calls Tryd.prog 96 #[.pointer (some ⟨x, 0, none⟩), .slice (some ⟨b, off, none⟩) 3 cap, .int .i64 2] w fun e w' => LineEnd (PlAt base x) base (nodeF 2 c [y0, y1, y2]) w w' e := by
  obtain ⟨r, hr⟩ : ∃ r, nodeF 2 c [y0, y1, y2] = r := ⟨_, rfl⟩
  rw [hr]
  unfold nodeF at hr
  rw [if_neg (by simp only [List.length_cons, List.length_nil]; decide)] at hr
  rw [show aboveF c [y0, y1, y2] = (atN c.nodes y2).map fun k => (k : Int) from rfl, show weightF 2 [y0, y1, y2] = some 0 from rfl, show nadrF [y0, y1, y2] = some zA from rfl] at hr
  rw [show wd [y0, y1, y2] 1 = y1 from rfl] at hr
  obtain ⟨mb, ma, nv, vv, wv, h⟩ := hR
  have hbx := h.cfg.hx
  have hxs := h.xlt
  obtain ⟨z, hz⟩ : ∃ z, w.heap.size = z := ⟨_, rfl⟩
  have hbz : base ≤ z := by omega
  obtain ⟨o, ho⟩ : ∃ o, atN c.nodes y2 = o := ⟨_, rfl⟩
  rw [ho] at hr
  have qf2 := fun (w' : World) (hb : Below w.heap.size w w') => find_any y2 c w' base x mb ma nv vv wv (h.on hb) hs
  rw [ho] at qf2
  rw [hz] at qf2
  obtain ⟨o1, ho1⟩ : ∃ o, atN c.nodes y1 = o := ⟨_, rfl⟩
  rw [ho1] at hr
  have qf1 := fun (w' : World) (hb : Below w.heap.size w w') => find_any y1 c w' base x mb ma nv vv wv (h.on hb) hs
  rw [ho1, hz] at qf1
  replace h := hide h
  replace hr := hide hr
  replace qf1 := hide qf1
  replace ho := hide ho
  replace qf2 := hide qf2
  replace ho1 := hide ho1
  replace hm := hide hm
  go_enter Tryd.func96, Tryd.ntmps96
  go_upto_region 3 with fail
  apply wp_region_lit
  iterate 5 (refine wpList_plain rfl fun K hK => ?_; go_simp; refine hK _ _ ?_; clear hK K)
  refine wpl_new rfl rfl 148 _ (alloc_nd _ rfl) 7 rfl (.tmp 50) rfl _ (fun _ => rfl) (fun _ => rfl) rfl (by kernel_rfl) (nd_one (str y1) 2 (-1) 0 false 0 0) ?_
  intro w1 hg1 hb1 hz1
  rw [hz] at hg1 hb1 hz1
  refine wpList_nil ?_
  go_simp
  have c2b := (hb1.cell (p := ⟨b, off + 2, none⟩) (by dsimp only; omega)).trans c2
  have q2 := qf2.out w1 hb1
  clear qf2
  rcases o with _ | j
  · change Calls _ _ _ _ (fun e w' => e = .returned (.int .i64 (-1)) ∧ w' = w1) at q2
    obtain ⟨w2, hw2, hb2, hg2, hz2⟩ := loc_set (cs' := #[.string (str y1), .int .i64 2, .int .i64 (-1), .int .i64 0, .bool false, .int .u64 0, .int .u64 0]) hb1 hg1 2 (.int .i64 (-1)) rfl
    have hca := blk_cell hg1
    have hfa := blk_free hg1
    replace hz2 : z < w2.heap.size := by omega
    clear hz1
    replace hb1 := hide hb1
    replace hg1 := hide hg1
    replace hb2 := hide hb2
    replace hg2 := hide hg2
    have hgd := blk_cell hg2.out
    replace q2 := hide q2
    go_wp2_with fail
    refine (q2.out).mono ?_
    rintro e w1 ⟨rfl, rfl⟩
    go_wp2_with fail
    refine bodyPost_ret (v := .int .i64 7) (by simp [results, Tryd.results96, go_sem]) rfl ?_
    exact lineEnd_err hr.out.symm (by decide) (by rw [hz]; exact hb2.out)
  change Calls _ _ _ _ (fun e w' => e = .returned (.int .i64 (j : Int)) ∧ w' = w1) at q2
  have hr2 := hr.out
  clear hr
  dsimp only [Option.map] at hr2
  obtain ⟨w2, hw2, hb2, hg2, hz2⟩ := loc_set (cs' := #[.string (str y1), .int .i64 2, .int .i64 (j : Int), .int .i64 0, .bool false, .int .u64 0, .int .u64 0]) hb1 hg1 2 (.int .i64 (j : Int)) rfl
  have hca := blk_cell hg1
  have hfa := blk_free hg1
  replace hz2 : z < w2.heap.size := by omega
  clear hz1
  replace hb1 := hide hb1
  replace hg1 := hide hg1
  replace hb2 := hide hb2
  replace hg2 := hide hg2
  have hgd := blk_cell hg2.out
  have tj : ¬ (j : Int) < 0 := by omega
  replace q2 := hide q2
  go_wp2_with fail
  refine (q2.out).mono ?_
  rintro e w1 ⟨rfl, rfl⟩
  have hr := hide hr2
  clear hr2
  go_upto_region 18 with fail
  clear hca hfa hw2 hb1 hg1
  replace hb2 := hb2.out
  replace hg2 := hg2.out
  clear hgd
  have kz : w2.cell? ⟨z, 0, none⟩ = some (.string (str y1)) := blk_cell hg2 0
  have q1 := qf1.out w2 hb2
  clear qf1
  replace hb2 := hide hb2
  replace hg2 := hide hg2
  rcases o1 with _ | j1
  · change Calls _ _ _ _ (fun e w' => e = .returned (.int .i64 (-1)) ∧ w' = w2) at q1
    replace q1 := hide q1
    go_wp2_with fail
    refine (q1.out).mono ?_
    rintro e w2 ⟨rfl, rfl⟩
    go_upto_region 20 with fail
    clear kz q1
    have hN := h.out.on (by rw [hz]; exact hb2.out)
    have hbb := hb2.out.mono hbz
    have hrx := row_not_x hN.cfg.nodes hN.cfg.blk hN.cfg.hT.1
    have hrz : nv.ownBlock = some z → False := fun e => by have := (World.ownsRow.lt h.out.cfg.nodes _ e).2; omega
    refine wp_region_Y [12] (KeptS w2.heap.size (fun k => nv.ownBlock = some k)) (by as_aux_lemma => kernel_rfl) ?_
    intro w3 hbd
    have hN3 := hN.on hbd
    have hge := blk_below hbd hz2 hg2.out
    have hbe := hbb.trans (hbd.mono (by omega))
    have ze := hbd.size
    have lx := fun l : RelW (KeptS w2.heap.size (fun k => nv.ownBlock = some k)) w3 => (show l.w.cell? ⟨x, 0, none⟩ = some nv from blk_cell ((l.hk.block x hN.xlt (by rcases hrx with e | e <;> (intro e2; first | (rw [e] at e2; cases e2) | exact e e2))).trans hN3.cfg.blk) 0)
    have lz := fun l : RelW (KeptS w2.heap.size (fun k => nv.ownBlock = some k)) w3 => blk_cell ((l.hk.block z hz2 hrz).trans hge)
    clear hN hg2 hbb hbd hrx hrz
    replace hN3 := hide hN3
    replace hbe := hide hbe
    refine wpY_seg [12] (KeptS w2.heap.size (fun k => nv.ownBlock = some k)) 0 7 (fuel := 6) (by as_aux_lemma => kernel_rfl) (fun d _ _ _ _ h => by cases d <;> exact h) (by as_aux_lemma => kernel_rfl) (by as_aux_lemma => kernel_rfl) (by as_aux_lemma => kernel_rfl) ?_
    simp only [List.drop_zero, List.take_succ_cons, List.take_zero]
    iterate 7 (refine wpQX_step (fun K hK => ?_); go_simp; refine hK _ ?_; clear hK K)
    refine wpQF_nil ?_
    clear lx lz hge
    obtain ⟨ND, hND⟩ : ∃ ND : Nd, ND = ⟨y1, 2, (j : Int), 0, zA⟩ := ⟨_, rfl⟩
    have hC : ndC ND = [.string (str y1), .int .i64 2, .int .i64 (j : Int), .int .i64 0, .bool false, .int .u64 0, .int .u64 0] := by rw [hND]; rfl
    refine wpW_step 7 rfl (by as_aux_lemma => kernel_rfl) (fun K hK => ?_)
    go_simp
    refine hK _ _ (relY_of (keptS_of_below ((Below.refl _ _).alloc (Nat.le_refl _) _) ze)) ?_
    clear hK K
    obtain ⟨wt, hwt⟩ : ∃ wt, w3.alloc (.cells (ndC ND).toArray 148) = wt := ⟨_, rfl⟩
    have hbt : Below w3.heap.size w3 wt := hwt ▸ (Below.refl _ _).alloc (Nat.le_refl _) _
    have hnt : wt.heap[w3.heap.size]? = some (.cells (ndC ND).toArray 148 (0, 0)) := hwt ▸ blk_new _ _ _
    rw [hC] at hwt
    change wpW _ _ _ _ _ _ _ _ (w3.alloc (.cells ([.string (str y1), .int .i64 2, .int .i64 (j : Int), .int .i64 0, .bool false, .int .u64 0, .int .u64 0]).toArray 148))
    rw [hwt]
    have hNt := hN3.out.on hbt
    have hbf := hbe.out.trans (hbt.mono (by omega))
    have zt := hbt.size
    clear hwt hbt hN3 hbe
    refine wpW_step 8 rfl (by as_aux_lemma => kernel_rfl) (fun K hK => ?_)
    rw [if_pos (by unfold Region.wanted; rfl)]
    refine wp_app_c (T := 148) Tryd.underlying68 info_nd rfl (by decide) (by decide) (.tmp 108) (.tmp 110) rfl base _ c.nodes.length _ (ndC ND) w3.heap.size rfl rfl hNt.cfg.nodes hnt rfl (ndC_one _) (by omega) (by have := hs.1; omega) fun v11 w11 h1 h2 => hK _ _ (relY_of ⟨h2.grown.os, h2.grown.tape, h2.grown.output, h2.grown.size, fun k hk hne => h2.grown.block k (by omega) (fun e => hne e.symm)⟩) ?_
    clear hK K hnt
    obtain ⟨A11, c11, hv11, -, -, -⟩ := own_isv h1
    subst hv11
    obtain ⟨hx11, hL12⟩ := hNt.pushN h1 h2
    have hB11 := hbf.trans (below_of_grown h2.grown (by omega) (fun k hk => (World.ownsRow.lt hNt.cfg.nodes _ hk).1))
    have hB12 : Below base w (w11.setCell ⟨x, 0, none⟩ (.slice A11 (c.nodes.length + 1) c11)) := hB11.setCell (p := ⟨x, 0, none⟩) hbx _
    have hc : w11.cell? ⟨x, 0, none⟩ = some nv := blk_cell hx11 0
    have hf := blk_free hx11 0
    clear h1 h2 hNt hbf hB11 hx11
    obtain ⟨w12, hw12⟩ : ∃ w12, w11.setCell ⟨x, 0, none⟩ (.slice A11 (c.nodes.length + 1) c11) = w12 := ⟨_, rfl⟩
    rw [hw12] at hL12 hB12
    replace hL12 := hide hL12
    replace hB12 := hide hB12
    replace hND := hide hND
    replace hC := hide hC
    refine wpW_step 9 rfl (by as_aux_lemma => kernel_rfl) (fun K hK => ?_)
    go_simp
    refine hK _ _ (relY_of (IsRel.refl _)) ?_
    clear hK K
    refine wpW_step 10 rfl (by as_aux_lemma => kernel_rfl) (fun K hK => ?_)
    go_simp
    refine hK _ _ (relY_of (IsRel.refl _)) ?_
    clear hK K
    refine wpW_step 11 rfl (by as_aux_lemma => kernel_rfl) (fun K hK => ?_)
    go_simp
    refine hK _ _ (relY_of (IsRel.refl _)) ?_
    clear hK K
    refine wpW_step 12 rfl (by as_aux_lemma => kernel_rfl) (fun K hK => ?_)
    go_simp
    refine hK _ _ (relY_wr (by as_aux_lemma => kernel_rfl)) ?_
    clear hK K hc hf hw12
    refine wpW_done (by as_aux_lemma => kernel_rfl) ?_ _
    go_wp2_with fail
    refine bodyPost_ret (v := .int .i64 0) (by simp [results, Tryd.results96, go_sem]) rfl ?_
    have hL := hL12.out
    rw [hND.out] at hL
    exact lineEnd_ok hr.out.symm ⟨mb, ma, _, vv, wv, hL⟩ hB12.out
  change Calls _ _ _ _ (fun e w' => e = .returned (.int .i64 (j1 : Int)) ∧ w' = w2) at q1
  have tj1 : (0 : Int) ≤ (j1 : Int) := by omega
  replace q1 := hide q1
  go_wp2_with fail
  refine (q1.out).mono ?_
  rintro e w2 ⟨rfl, rfl⟩
  go_wp2_with fail
  refine bodyPost_ret (v := .int .i64 8) (by simp [results, Tryd.results96, go_sem]) rfl ?_
  exact lineEnd_err hr.out.symm (by decide) (by rw [hz]; exact hb2.out)
end Conf18
end Go.Proofs.YtbcicbiphgeghaaDoor
/- conf, the law: node: a line of 3 words, of kind 3. Conditions: words of at most 2^16 bytes. -/
namespace Go.Proofs.YtbcicbiphgeghaaDoor
open Go.RowKit Go.ChangeShapes Go.WideShapes Go.ChangeAt Go.Deep
namespace Conf18
open Addr05
set_option maxRecDepth 20000 in
set_option maxHeartbeats 16000000 in
theorem lnode33_any (y0 y1 y2 : List UInt8) (c : Cfg) (w : World) (base x b off cap : Nat) (hb : b < base) (c0 : w.cell? ⟨b, off, none⟩ = some (.string (str y0))) (c1 : w.cell? ⟨b, off + 1, none⟩ = some (.string (str y1))) (c2 : w.cell? ⟨b, off + 2, none⟩ = some (.string (str y2))) (l0 : y0.length ≤ 65536) (l1 : y1.length ≤ 65536) (l2 : y2.length ≤ 65536) (hm : MaxAt w) (hs : c.small 4096) (hR : PlAt base x w c) :
    Calls Tryd.prog 96 #[.pointer (some ⟨x, 0, none⟩), .slice (some ⟨b, off, none⟩) 3 cap, .int .i64 3] w fun e w' => LineEnd (PlAt base x) base (nodeF 3 c [y0, y1, y2]) w w' e := by
  obtain ⟨r, hr⟩ : ∃ r, nodeF 3 c [y0, y1, y2] = r := ⟨_, rfl⟩
  rw [hr]
  unfold nodeF at hr
  rw [if_neg (by simp only [List.length_cons, List.length_nil]; decide)] at hr
  rw [show aboveF c [y0, y1, y2] = (atN c.nodes y2).map fun k => (k : Int) from rfl, show weightF 3 [y0, y1, y2] = some 0 from rfl, show nadrF [y0, y1, y2] = some zA from rfl] at hr
  rw [show wd [y0, y1, y2] 1 = y1 from rfl] at hr
  obtain ⟨mb, ma, nv, vv, wv, h⟩ := hR
  have hbx := h.cfg.hx
  have hxs := h.xlt
  obtain ⟨z, hz⟩ : ∃ z, w.heap.size = z := ⟨_, rfl⟩
  have hbz : base ≤ z := by omega
  obtain ⟨o, ho⟩ : ∃ o, atN c.nodes y2 = o := ⟨_, rfl⟩
  rw [ho] at hr
  have qf2 := fun (w' : World) (hb : Below w.heap.size w w') => find_any y2 c w' base x mb ma nv vv wv (h.on hb) hs
  rw [ho] at qf2
  rw [hz] at qf2
  obtain ⟨o1, ho1⟩ : ∃ o, atN c.nodes y1 = o := ⟨_, rfl⟩
  rw [ho1] at hr
  have qf1 := fun (w' : World) (hb : Below w.heap.size w w') => find_any y1 c w' base x mb ma nv vv wv (h.on hb) hs
  rw [ho1, hz] at qf1
  replace h := hide h
  replace hr := hide hr
  replace qf1 := hide qf1
  replace ho := hide ho
  replace qf2 := hide qf2
  replace ho1 := hide ho1
  replace hm := hide hm
  go_enter Tryd.func96, Tryd.ntmps96
  go_upto_region 3 with fail
  apply wp_region_lit
  iterate 5 (refine wpList_plain rfl fun K hK => ?_; go_simp; refine hK _ _ ?_; clear hK K)
  refine wpl_new rfl rfl 148 _ (alloc_nd _ rfl) 7 rfl (.tmp 50) rfl _ (fun _ => rfl) (fun _ => rfl) rfl (by kernel_rfl) (nd_one (str y1) 3 (-1) 0 false 0 0) ?_
  intro w1 hg1 hb1 hz1
  rw [hz] at hg1 hb1 hz1
  refine wpList_nil ?_
  go_simp
  have c2b := (hb1.cell (p := ⟨b, off + 2, none⟩) (by dsimp only; omega)).trans c2
  have q2 := qf2.out w1 hb1
  clear qf2
  rcases o with _ | j
  · change Calls _ _ _ _ (fun e w' => e = .returned (.int .i64 (-1)) ∧ w' = w1) at q2
    obtain ⟨w2, hw2, hb2, hg2, hz2⟩ := loc_set (cs' := #[.string (str y1), .int .i64 3, .int .i64 (-1), .int .i64 0, .bool false, .int .u64 0, .int .u64 0]) hb1 hg1 2 (.int .i64 (-1)) rfl
    have hca := blk_cell hg1
    have hfa := blk_free hg1
    replace hz2 : z < w2.heap.size := by omega
    clear hz1
    replace hb1 := hide hb1
    replace hg1 := hide hg1
    replace hb2 := hide hb2
    replace hg2 := hide hg2
    have hgd := blk_cell hg2.out
    replace q2 := hide q2
    go_wp2_with fail
    refine (q2.out).mono ?_
    rintro e w1 ⟨rfl, rfl⟩
    go_wp2_with fail
    refine bodyPost_ret (v := .int .i64 7) (by simp [results, Tryd.results96, go_sem]) rfl ?_
    exact lineEnd_err hr.out.symm (by decide) (by rw [hz]; exact hb2.out)
  change Calls _ _ _ _ (fun e w' => e = .returned (.int .i64 (j : Int)) ∧ w' = w1) at q2
  have hr2 := hr.out
  clear hr
  dsimp only [Option.map] at hr2
  obtain ⟨w2, hw2, hb2, hg2, hz2⟩ := loc_set (cs' := #[.string (str y1), .int .i64 3, .int .i64 (j : Int), .int .i64 0, .bool false, .int .u64 0, .int .u64 0]) hb1 hg1 2 (.int .i64 (j : Int)) rfl
  have hca := blk_cell hg1
  have hfa := blk_free hg1
  replace hz2 : z < w2.heap.size := by omega
  clear hz1
  replace hb1 := hide hb1
  replace hg1 := hide hg1
  replace hb2 := hide hb2
  replace hg2 := hide hg2
  have hgd := blk_cell hg2.out
  have tj : ¬ (j : Int) < 0 := by omega
  replace q2 := hide q2
  go_wp2_with fail
  refine (q2.out).mono ?_
  rintro e w1 ⟨rfl, rfl⟩
  have hr := hide hr2
  clear hr2
  go_upto_region 18 with fail
  clear hca hfa hw2 hb1 hg1
  replace hb2 := hb2.out
  replace hg2 := hg2.out
  clear hgd
  have kz : w2.cell? ⟨z, 0, none⟩ = some (.string (str y1)) := blk_cell hg2 0
  have q1 := qf1.out w2 hb2
  clear qf1
  replace hb2 := hide hb2
  replace hg2 := hide hg2
  rcases o1 with _ | j1
  · change Calls _ _ _ _ (fun e w' => e = .returned (.int .i64 (-1)) ∧ w' = w2) at q1
    replace q1 := hide q1
    go_wp2_with fail
    refine (q1.out).mono ?_
    rintro e w2 ⟨rfl, rfl⟩
    go_upto_region 20 with fail
    clear kz q1
    have hN := h.out.on (by rw [hz]; exact hb2.out)
    have hbb := hb2.out.mono hbz
    have hrx := row_not_x hN.cfg.nodes hN.cfg.blk hN.cfg.hT.1
    have hrz : nv.ownBlock = some z → False := fun e => by have := (World.ownsRow.lt h.out.cfg.nodes _ e).2; omega
    refine wp_region_Y [12] (KeptS w2.heap.size (fun k => nv.ownBlock = some k)) (by as_aux_lemma => kernel_rfl) ?_
    intro w3 hbd
    have hN3 := hN.on hbd
    have hge := blk_below hbd hz2 hg2.out
    have hbe := hbb.trans (hbd.mono (by omega))
    have ze := hbd.size
    have lx := fun l : RelW (KeptS w2.heap.size (fun k => nv.ownBlock = some k)) w3 => (show l.w.cell? ⟨x, 0, none⟩ = some nv from blk_cell ((l.hk.block x hN.xlt (by rcases hrx with e | e <;> (intro e2; first | (rw [e] at e2; cases e2) | exact e e2))).trans hN3.cfg.blk) 0)
    have lz := fun l : RelW (KeptS w2.heap.size (fun k => nv.ownBlock = some k)) w3 => blk_cell ((l.hk.block z hz2 hrz).trans hge)
    clear hN hg2 hbb hbd hrx hrz
    replace hN3 := hide hN3
    replace hbe := hide hbe
    refine wpY_seg [12] (KeptS w2.heap.size (fun k => nv.ownBlock = some k)) 0 7 (fuel := 6) (by as_aux_lemma => kernel_rfl) (fun d _ _ _ _ h => by cases d <;> exact h) (by as_aux_lemma => kernel_rfl) (by as_aux_lemma => kernel_rfl) (by as_aux_lemma => kernel_rfl) ?_
    simp only [List.drop_zero, List.take_succ_cons, List.take_zero]
    iterate 7 (refine wpQX_step (fun K hK => ?_); go_simp; refine hK _ ?_; clear hK K)
    refine wpQF_nil ?_
    clear lx lz hge
    obtain ⟨ND, hND⟩ : ∃ ND : Nd, ND = ⟨y1, 3, (j : Int), 0, zA⟩ := ⟨_, rfl⟩
    have hC : ndC ND = [.string (str y1), .int .i64 3, .int .i64 (j : Int), .int .i64 0, .bool false, .int .u64 0, .int .u64 0] := by rw [hND]; rfl
    refine wpW_step 7 rfl (by as_aux_lemma => kernel_rfl) (fun K hK => ?_)
    go_simp
    refine hK _ _ (relY_of (keptS_of_below ((Below.refl _ _).alloc (Nat.le_refl _) _) ze)) ?_
    clear hK K
    obtain ⟨wt, hwt⟩ : ∃ wt, w3.alloc (.cells (ndC ND).toArray 148) = wt := ⟨_, rfl⟩
    have hbt : Below w3.heap.size w3 wt := hwt ▸ (Below.refl _ _).alloc (Nat.le_refl _) _
    have hnt : wt.heap[w3.heap.size]? = some (.cells (ndC ND).toArray 148 (0, 0)) := hwt ▸ blk_new _ _ _
    rw [hC] at hwt
    change wpW _ _ _ _ _ _ _ _ (w3.alloc (.cells ([.string (str y1), .int .i64 3, .int .i64 (j : Int), .int .i64 0, .bool false, .int .u64 0, .int .u64 0]).toArray 148))
    rw [hwt]
    have hNt := hN3.out.on hbt
    have hbf := hbe.out.trans (hbt.mono (by omega))
    have zt := hbt.size
    clear hwt hbt hN3 hbe
    refine wpW_step 8 rfl (by as_aux_lemma => kernel_rfl) (fun K hK => ?_)
    rw [if_pos (by unfold Region.wanted; rfl)]
    refine wp_app_c (T := 148) Tryd.underlying68 info_nd rfl (by decide) (by decide) (.tmp 108) (.tmp 110) rfl base _ c.nodes.length _ (ndC ND) w3.heap.size rfl rfl hNt.cfg.nodes hnt rfl (ndC_one _) (by omega) (by have := hs.1; omega) fun v11 w11 h1 h2 => hK _ _ (relY_of ⟨h2.grown.os, h2.grown.tape, h2.grown.output, h2.grown.size, fun k hk hne => h2.grown.block k (by omega) (fun e => hne e.symm)⟩) ?_
    clear hK K hnt
    obtain ⟨A11, c11, hv11, -, -, -⟩ := own_isv h1
    subst hv11
    obtain ⟨hx11, hL12⟩ := hNt.pushN h1 h2
    have hB11 := hbf.trans (below_of_grown h2.grown (by omega) (fun k hk => (World.ownsRow.lt hNt.cfg.nodes _ hk).1))
    have hB12 : Below base w (w11.setCell ⟨x, 0, none⟩ (.slice A11 (c.nodes.length + 1) c11)) := hB11.setCell (p := ⟨x, 0, none⟩) hbx _
    have hc : w11.cell? ⟨x, 0, none⟩ = some nv := blk_cell hx11 0
    have hf := blk_free hx11 0
    clear h1 h2 hNt hbf hB11 hx11
    obtain ⟨w12, hw12⟩ : ∃ w12, w11.setCell ⟨x, 0, none⟩ (.slice A11 (c.nodes.length + 1) c11) = w12 := ⟨_, rfl⟩
    rw [hw12] at hL12 hB12
    replace hL12 := hide hL12
    replace hB12 := hide hB12
    replace hND := hide hND
    replace hC := hide hC
    refine wpW_step 9 rfl (by as_aux_lemma => kernel_rfl) (fun K hK => ?_)
    go_simp
    refine hK _ _ (relY_of (IsRel.refl _)) ?_
    clear hK K
    refine wpW_step 10 rfl (by as_aux_lemma => kernel_rfl) (fun K hK => ?_)
    go_simp
    refine hK _ _ (relY_of (IsRel.refl _)) ?_
    clear hK K
    refine wpW_step 11 rfl (by as_aux_lemma => kernel_rfl) (fun K hK => ?_)
    go_simp
    refine hK _ _ (relY_of (IsRel.refl _)) ?_
    clear hK K
    refine wpW_step 12 rfl (by as_aux_lemma => kernel_rfl) (fun K hK => ?_)
    go_simp
    refine hK _ _ (relY_wr (by as_aux_lemma => kernel_rfl)) ?_
    clear hK K hc hf hw12
    refine wpW_done (by as_aux_lemma => kernel_rfl) ?_ _
    go_wp2_with fail
    refine bodyPost_ret (v := .int .i64 0) (by simp [results, Tryd.results96, go_sem]) rfl ?_
    have hL := hL12.out
    rw [hND.out] at hL
    exact lineEnd_ok hr.out.symm ⟨mb, ma, _, vv, wv, hL⟩ hB12.out
  change Calls _ _ _ _ (fun e w' => e = .returned (.int .i64 (j1 : Int)) ∧ w' = w2) at q1
  have tj1 : (0 : Int) ≤ (j1 : Int) := by omega
  replace q1 := hide q1
  go_wp2_with fail
  refine (q1.out).mono ?_
  rintro e w2 ⟨rfl, rfl⟩
  go_wp2_with fail
  refine bodyPost_ret (v := .int .i64 8) (by simp [results, Tryd.results96, go_sem]) rfl ?_
  exact lineEnd_err hr.out.symm (by decide) (by rw [hz]; exact hb2.out)
end Conf18
end Go.Proofs.YtbcicbiphgeghaaDoor
/- conf, the law: node: a line of 4 words, of kind 2. Conditions: words of at most 2^16 bytes. -/
namespace Go.Proofs.YtbcicbiphgeghaaDoor
open Go.RowKit Go.ChangeShapes Go.WideShapes Go.ChangeAt Go.Deep
namespace Conf18
open Addr05
set_option maxRecDepth 20000 in
set_option maxHeartbeats 16000000 in
theorem lnode42_any (y0 y1 y2 y3 : List UInt8) (c : Cfg) (w : World) (base x b off cap : Nat) (hb : b < base) (c0 : w.cell? ⟨b, off, none⟩ = some (.string (str y0))) (c1 : w.cell? ⟨b, off + 1, none⟩ = some (.string (str y1))) (c2 : w.cell? ⟨b, off + 2, none⟩ = some (.string (str y2))) (c3 : w.cell? ⟨b, off + 3, none⟩ = some (.string (str y3))) (l0 : y0.length ≤ 65536) (l1 : y1.length ≤ 65536) (l2 : y2.length ≤ 65536) (l3 : y3.length ≤ 65536) (hm : MaxAt w) (hs : c.small 4096) (hR : PlAt base x w c) :
    Calls Tryd.prog 96 #[.pointer (some ⟨x, 0, none⟩), .slice (some ⟨b, off, none⟩) 4 cap, .int .i64 2] w fun e w' => LineEnd (PlAt base x) base (nodeF 2 c [y0, y1, y2, y3]) w w' e := by
  obtain ⟨r, hr⟩ : ∃ r, nodeF 2 c [y0, y1, y2, y3] = r := ⟨_, rfl⟩
  rw [hr]
  unfold nodeF at hr
  rw [if_neg (by simp only [List.length_cons, List.length_nil]; decide)] at hr
  rw [show aboveF c [y0, y1, y2, y3] = (atN c.nodes y2).map fun k => (k : Int) from rfl, show nadrF [y0, y1, y2, y3] = some zA from rfl] at hr
  have hW : weightF 2 [y0, y1, y2, y3] = match lexF y3 65535 with | none => none | some v => if v = 0 ∧ 2 ≠ 4 then none else some v := rfl
  rw [hW] at hr
  clear hW
  rw [show wd [y0, y1, y2, y3] 1 = y1 from rfl] at hr
  obtain ⟨mb, ma, nv, vv, wv, h⟩ := hR
  have hbx := h.cfg.hx
  have hxs := h.xlt
  obtain ⟨z, hz⟩ : ∃ z, w.heap.size = z := ⟨_, rfl⟩
  have hbz : base ≤ z := by omega
  have q3 := fun w => lexNum_any y3 (Nat.le_trans l3 (by decide)) 65535 w
  obtain ⟨o, ho⟩ : ∃ o, atN c.nodes y2 = o := ⟨_, rfl⟩
  rw [ho] at hr
  have qf2 := fun (w' : World) (hb : Below w.heap.size w w') => find_any y2 c w' base x mb ma nv vv wv (h.on hb) hs
  rw [ho] at qf2
  rw [hz] at qf2
  obtain ⟨o1, ho1⟩ : ∃ o, atN c.nodes y1 = o := ⟨_, rfl⟩
  rw [ho1] at hr
  have qf1 := fun (w' : World) (hb : Below w.heap.size w w') => find_any y1 c w' base x mb ma nv vv wv (h.on hb) hs
  rw [ho1, hz] at qf1
  replace h := hide h
  replace hr := hide hr
  replace qf1 := hide qf1
  replace ho := hide ho
  replace qf2 := hide qf2
  replace ho1 := hide ho1
  replace hm := hide hm
  replace q3 := hide q3
  go_enter Tryd.func96, Tryd.ntmps96
  go_upto_region 3 with fail
  apply wp_region_lit
  iterate 5 (refine wpList_plain rfl fun K hK => ?_; go_simp; refine hK _ _ ?_; clear hK K)
  refine wpl_new rfl rfl 148 _ (alloc_nd _ rfl) 7 rfl (.tmp 50) rfl _ (fun _ => rfl) (fun _ => rfl) rfl (by kernel_rfl) (nd_one (str y1) 2 (-1) 0 false 0 0) ?_
  intro w1 hg1 hb1 hz1
  rw [hz] at hg1 hb1 hz1
  refine wpList_nil ?_
  go_simp
  have c2b := (hb1.cell (p := ⟨b, off + 2, none⟩) (by dsimp only; omega)).trans c2
  have q2 := qf2.out w1 hb1
  clear qf2
  rcases o with _ | j
  · change Calls _ _ _ _ (fun e w' => e = .returned (.int .i64 (-1)) ∧ w' = w1) at q2
    obtain ⟨w2, hw2, hb2, hg2, hz2⟩ := loc_set (cs' := #[.string (str y1), .int .i64 2, .int .i64 (-1), .int .i64 0, .bool false, .int .u64 0, .int .u64 0]) hb1 hg1 2 (.int .i64 (-1)) rfl
    have hca := blk_cell hg1
    have hfa := blk_free hg1
    replace hz2 : z < w2.heap.size := by omega
    clear hz1
    replace hb1 := hide hb1
    replace hg1 := hide hg1
    replace hb2 := hide hb2
    replace hg2 := hide hg2
    have hgd := blk_cell hg2.out
    replace q2 := hide q2
    go_wp2_with fail
    refine (q2.out).mono ?_
    rintro e w1 ⟨rfl, rfl⟩
    go_wp2_with fail
    refine bodyPost_ret (v := .int .i64 7) (by simp [results, Tryd.results96, go_sem]) rfl ?_
    exact lineEnd_err hr.out.symm (by decide) (by rw [hz]; exact hb2.out)
  change Calls _ _ _ _ (fun e w' => e = .returned (.int .i64 (j : Int)) ∧ w' = w1) at q2
  have hr2 := hr.out
  clear hr
  dsimp only [Option.map] at hr2
  obtain ⟨w2, hw2, hb2, hg2, hz2⟩ := loc_set (cs' := #[.string (str y1), .int .i64 2, .int .i64 (j : Int), .int .i64 0, .bool false, .int .u64 0, .int .u64 0]) hb1 hg1 2 (.int .i64 (j : Int)) rfl
  have hca := blk_cell hg1
  have hfa := blk_free hg1
  replace hz2 : z < w2.heap.size := by omega
  clear hz1
  replace hb1 := hide hb1
  replace hg1 := hide hg1
  replace hb2 := hide hb2
  replace hg2 := hide hg2
  have hgd := blk_cell hg2.out
  have tj : ¬ (j : Int) < 0 := by omega
  replace q2 := hide q2
  go_wp2_with fail
  refine (q2.out).mono ?_
  rintro e w1 ⟨rfl, rfl⟩
  have c3b := (hb2.out.cell (p := ⟨b, off + 3, none⟩) (by dsimp only; omega)).trans c3
  rcases hv : lexF y3 65535 with _ | v
  · rw [hv] at hr2
    have q4 := q3.out w2
    rw [hv, lexV_none] at q4
    have hr := hide hr2
    clear hr2 hv
    replace q4 := hide q4
    go_wp2_with fail
    refine (q4.out).mono ?_
    rintro e w2 ⟨rfl, rfl⟩
    clear hca hfa hw2 hb1 hg1
    go_wp2_with fail
    refine bodyPost_ret (v := .int .i64 17) (by simp [results, Tryd.results96, go_sem]) rfl ?_
    exact lineEnd_err hr.out.symm (by decide) (by rw [hz]; exact hb2.out)
  rw [hv] at hr2
  dsimp only at hr2
  have q4 := q3.out w2
  rw [hv, lexV_some] at q4
  clear hv
  replace q4 := hide q4
  go_wp2_with fail
  refine (q4.out).mono ?_
  rintro e w2 ⟨rfl, rfl⟩
  clear hca hfa hw2 hb1 hg1
  replace hb2 := hb2.out
  replace hg2 := hg2.out
  clear hgd
  have hgc := blk_cell hg2
  by_cases hv0 : v = 0
  · subst hv0
    rw [if_pos ⟨rfl, by decide⟩] at hr2
    have hr := hide hr2
    clear hr2
    replace hb2 := hide hb2
    replace hg2 := hide hg2
    go_wp2_with fail
    refine bodyPost_ret (v := .int .i64 17) (by simp [results, Tryd.results96, go_sem]) rfl ?_
    exact lineEnd_err hr.out.symm (by decide) (by rw [hz]; exact hb2.out)
  rw [if_neg (fun e => hv0 e.1)] at hr2
  have tv : ((v : Int) == 0) = false := by rw [beq_eq_false_iff_ne]; omega
  have tv2 : ¬ (v : Int) = 0 := by omega
  clear hgc
  obtain ⟨w3, hw3, hb3, hg3, hz3⟩ := loc_set (cs' := #[.string (str y1), .int .i64 2, .int .i64 (j : Int), .int .i64 (v : Int), .bool false, .int .u64 0, .int .u64 0]) hb2 hg2 3 (.int .i64 (v : Int)) rfl
  have hca := blk_cell hg2
  have hfa := blk_free hg2
  replace hz3 : z < w3.heap.size := by omega
  clear hz2
  replace hb2 := hide hb2
  replace hg2 := hide hg2
  replace hb3 := hide hb3
  replace hg3 := hide hg3
  have hr := hide hr2
  clear hr2
  go_upto_region 18 with fail
  clear hca hfa hw3 hb2 hg2
  replace hb3 := hb3.out
  replace hg3 := hg3.out
  have kz : w3.cell? ⟨z, 0, none⟩ = some (.string (str y1)) := blk_cell hg3 0
  have q1 := qf1.out w3 hb3
  clear qf1
  replace hb3 := hide hb3
  replace hg3 := hide hg3
  rcases o1 with _ | j1
  · change Calls _ _ _ _ (fun e w' => e = .returned (.int .i64 (-1)) ∧ w' = w3) at q1
    replace q1 := hide q1
    go_wp2_with fail
    refine (q1.out).mono ?_
    rintro e w3 ⟨rfl, rfl⟩
    go_upto_region 20 with fail
    clear kz q1
    have hN := h.out.on (by rw [hz]; exact hb3.out)
    have hbb := hb3.out.mono hbz
    have hrx := row_not_x hN.cfg.nodes hN.cfg.blk hN.cfg.hT.1
    have hrz : nv.ownBlock = some z → False := fun e => by have := (World.ownsRow.lt h.out.cfg.nodes _ e).2; omega
    refine wp_region_Y [12] (KeptS w3.heap.size (fun k => nv.ownBlock = some k)) (by as_aux_lemma => kernel_rfl) ?_
    intro w4 hbd
    have hN4 := hN.on hbd
    have hge := blk_below hbd hz3 hg3.out
    have hbe := hbb.trans (hbd.mono (by omega))
    have ze := hbd.size
    have lx := fun l : RelW (KeptS w3.heap.size (fun k => nv.ownBlock = some k)) w4 => (show l.w.cell? ⟨x, 0, none⟩ = some nv from blk_cell ((l.hk.block x hN.xlt (by rcases hrx with e | e <;> (intro e2; first | (rw [e] at e2; cases e2) | exact e e2))).trans hN4.cfg.blk) 0)
    have lz := fun l : RelW (KeptS w3.heap.size (fun k => nv.ownBlock = some k)) w4 => blk_cell ((l.hk.block z hz3 hrz).trans hge)
    clear hN hg3 hbb hbd hrx hrz
    replace hN4 := hide hN4
    replace hbe := hide hbe
    refine wpY_seg [12] (KeptS w3.heap.size (fun k => nv.ownBlock = some k)) 0 7 (fuel := 6) (by as_aux_lemma => kernel_rfl) (fun d _ _ _ _ h => by cases d <;> exact h) (by as_aux_lemma => kernel_rfl) (by as_aux_lemma => kernel_rfl) (by as_aux_lemma => kernel_rfl) ?_
    simp only [List.drop_zero, List.take_succ_cons, List.take_zero]
    iterate 7 (refine wpQX_step (fun K hK => ?_); go_simp; refine hK _ ?_; clear hK K)
    refine wpQF_nil ?_
    clear lx lz hge
    obtain ⟨ND, hND⟩ : ∃ ND : Nd, ND = ⟨y1, 2, (j : Int), (v : Int), zA⟩ := ⟨_, rfl⟩
    have hC : ndC ND = [.string (str y1), .int .i64 2, .int .i64 (j : Int), .int .i64 (v : Int), .bool false, .int .u64 0, .int .u64 0] := by rw [hND]; rfl
    refine wpW_step 7 rfl (by as_aux_lemma => kernel_rfl) (fun K hK => ?_)
    go_simp
    refine hK _ _ (relY_of (keptS_of_below ((Below.refl _ _).alloc (Nat.le_refl _) _) ze)) ?_
    clear hK K
    obtain ⟨wt, hwt⟩ : ∃ wt, w4.alloc (.cells (ndC ND).toArray 148) = wt := ⟨_, rfl⟩
    have hbt : Below w4.heap.size w4 wt := hwt ▸ (Below.refl _ _).alloc (Nat.le_refl _) _
    have hnt : wt.heap[w4.heap.size]? = some (.cells (ndC ND).toArray 148 (0, 0)) := hwt ▸ blk_new _ _ _
    rw [hC] at hwt
    change wpW _ _ _ _ _ _ _ _ (w4.alloc (.cells ([.string (str y1), .int .i64 2, .int .i64 (j : Int), .int .i64 (v : Int), .bool false, .int .u64 0, .int .u64 0]).toArray 148))
    rw [hwt]
    have hNt := hN4.out.on hbt
    have hbf := hbe.out.trans (hbt.mono (by omega))
    have zt := hbt.size
    clear hwt hbt hN4 hbe
    refine wpW_step 8 rfl (by as_aux_lemma => kernel_rfl) (fun K hK => ?_)
    rw [if_pos (by unfold Region.wanted; rfl)]
    refine wp_app_c (T := 148) Tryd.underlying68 info_nd rfl (by decide) (by decide) (.tmp 108) (.tmp 110) rfl base _ c.nodes.length _ (ndC ND) w4.heap.size rfl rfl hNt.cfg.nodes hnt rfl (ndC_one _) (by omega) (by have := hs.1; omega) fun v11 w11 h1 h2 => hK _ _ (relY_of ⟨h2.grown.os, h2.grown.tape, h2.grown.output, h2.grown.size, fun k hk hne => h2.grown.block k (by omega) (fun e => hne e.symm)⟩) ?_
    clear hK K hnt
    obtain ⟨A11, c11, hv11, -, -, -⟩ := own_isv h1
    subst hv11
    obtain ⟨hx11, hL12⟩ := hNt.pushN h1 h2
    have hB11 := hbf.trans (below_of_grown h2.grown (by omega) (fun k hk => (World.ownsRow.lt hNt.cfg.nodes _ hk).1))
    have hB12 : Below base w (w11.setCell ⟨x, 0, none⟩ (.slice A11 (c.nodes.length + 1) c11)) := hB11.setCell (p := ⟨x, 0, none⟩) hbx _
    have hc : w11.cell? ⟨x, 0, none⟩ = some nv := blk_cell hx11 0
    have hf := blk_free hx11 0
    clear h1 h2 hNt hbf hB11 hx11
    obtain ⟨w12, hw12⟩ : ∃ w12, w11.setCell ⟨x, 0, none⟩ (.slice A11 (c.nodes.length + 1) c11) = w12 := ⟨_, rfl⟩
    rw [hw12] at hL12 hB12
    replace hL12 := hide hL12
    replace hB12 := hide hB12
    replace hND := hide hND
    replace hC := hide hC
    refine wpW_step 9 rfl (by as_aux_lemma => kernel_rfl) (fun K hK => ?_)
    go_simp
    refine hK _ _ (relY_of (IsRel.refl _)) ?_
    clear hK K
    refine wpW_step 10 rfl (by as_aux_lemma => kernel_rfl) (fun K hK => ?_)
    go_simp
    refine hK _ _ (relY_of (IsRel.refl _)) ?_
    clear hK K
    refine wpW_step 11 rfl (by as_aux_lemma => kernel_rfl) (fun K hK => ?_)
    go_simp
    refine hK _ _ (relY_of (IsRel.refl _)) ?_
    clear hK K
    refine wpW_step 12 rfl (by as_aux_lemma => kernel_rfl) (fun K hK => ?_)
    go_simp
    refine hK _ _ (relY_wr (by as_aux_lemma => kernel_rfl)) ?_
    clear hK K hc hf hw12
    refine wpW_done (by as_aux_lemma => kernel_rfl) ?_ _
    go_wp2_with fail
    refine bodyPost_ret (v := .int .i64 0) (by simp [results, Tryd.results96, go_sem]) rfl ?_
    have hL := hL12.out
    rw [hND.out] at hL
    exact lineEnd_ok hr.out.symm ⟨mb, ma, _, vv, wv, hL⟩ hB12.out
  change Calls _ _ _ _ (fun e w' => e = .returned (.int .i64 (j1 : Int)) ∧ w' = w3) at q1
  have tj1 : (0 : Int) ≤ (j1 : Int) := by omega
  replace q1 := hide q1
  go_wp2_with fail
  refine (q1.out).mono ?_
  rintro e w3 ⟨rfl, rfl⟩
  go_wp2_with fail
  refine bodyPost_ret (v := .int .i64 8) (by simp [results, Tryd.results96, go_sem]) rfl ?_
  exact lineEnd_err hr.out.symm (by decide) (by rw [hz]; exact hb3.out)
end Conf18
end Go.Proofs.YtbcicbiphgeghaaDoor
/- conf, the law: node: a line of 4 words, of kind 3. Conditions: words of at most 2^16 bytes. -/
namespace Go.Proofs.YtbcicbiphgeghaaDoor
open Go.RowKit Go.ChangeShapes Go.WideShapes Go.ChangeAt Go.Deep
namespace Conf18
open Addr05
set_option maxRecDepth 20000 in
set_option maxHeartbeats 16000000 in
theorem lnode43_any (y0 y1 y2 y3 : List UInt8) (c : Cfg) (w : World) (base x b off cap : Nat) (hb : b < base) (c0 : w.cell? ⟨b, off, none⟩ = some (.string (str y0))) (c1 : w.cell? ⟨b, off + 1, none⟩ = some (.string (str y1))) (c2 : w.cell? ⟨b, off + 2, none⟩ = some (.string (str y2))) (c3 : w.cell? ⟨b, off + 3, none⟩ = some (.string (str y3))) (l0 : y0.length ≤ 65536) (l1 : y1.length ≤ 65536) (l2 : y2.length ≤ 65536) (l3 : y3.length ≤ 65536) (hm : MaxAt w) (hs : c.small 4096) (hR : PlAt base x w c) :
    Calls Tryd.prog 96 #[.pointer (some ⟨x, 0, none⟩), .slice (some ⟨b, off, none⟩) 4 cap, .int .i64 3] w fun e w' => LineEnd (PlAt base x) base (nodeF 3 c [y0, y1, y2, y3]) w w' e := by
  obtain ⟨r, hr⟩ : ∃ r, nodeF 3 c [y0, y1, y2, y3] = r := ⟨_, rfl⟩
  rw [hr]
  unfold nodeF at hr
  rw [if_neg (by simp only [List.length_cons, List.length_nil]; decide)] at hr
  rw [show aboveF c [y0, y1, y2, y3] = (atN c.nodes y2).map fun k => (k : Int) from rfl, show nadrF [y0, y1, y2, y3] = some zA from rfl] at hr
  have hW : weightF 3 [y0, y1, y2, y3] = match lexF y3 65535 with | none => none | some v => if v = 0 ∧ 3 ≠ 4 then none else some v := rfl
  rw [hW] at hr
  clear hW
  rw [show wd [y0, y1, y2, y3] 1 = y1 from rfl] at hr
  obtain ⟨mb, ma, nv, vv, wv, h⟩ := hR
  have hbx := h.cfg.hx
  have hxs := h.xlt
  obtain ⟨z, hz⟩ : ∃ z, w.heap.size = z := ⟨_, rfl⟩
  have hbz : base ≤ z := by omega
  have q3 := fun w => lexNum_any y3 (Nat.le_trans l3 (by decide)) 65535 w
  obtain ⟨o, ho⟩ : ∃ o, atN c.nodes y2 = o := ⟨_, rfl⟩
  rw [ho] at hr
  have qf2 := fun (w' : World) (hb : Below w.heap.size w w') => find_any y2 c w' base x mb ma nv vv wv (h.on hb) hs
  rw [ho] at qf2
  rw [hz] at qf2
  obtain ⟨o1, ho1⟩ : ∃ o, atN c.nodes y1 = o := ⟨_, rfl⟩
  rw [ho1] at hr
  have qf1 := fun (w' : World) (hb : Below w.heap.size w w') => find_any y1 c w' base x mb ma nv vv wv (h.on hb) hs
  rw [ho1, hz] at qf1
  replace h := hide h
  replace hr := hide hr
  replace qf1 := hide qf1
  replace ho := hide ho
  replace qf2 := hide qf2
  replace ho1 := hide ho1
  replace hm := hide hm
  replace q3 := hide q3
  go_enter Tryd.func96, Tryd.ntmps96
  go_upto_region 3 with fail
  apply wp_region_lit
  iterate 5 (refine wpList_plain rfl fun K hK => ?_; go_simp; refine hK _ _ ?_; clear hK K)
  refine wpl_new rfl rfl 148 _ (alloc_nd _ rfl) 7 rfl (.tmp 50) rfl _ (fun _ => rfl) (fun _ => rfl) rfl (by kernel_rfl) (nd_one (str y1) 3 (-1) 0 false 0 0) ?_
  intro w1 hg1 hb1 hz1
  rw [hz] at hg1 hb1 hz1
  refine wpList_nil ?_
  go_simp
  have c2b := (hb1.cell (p := ⟨b, off + 2, none⟩) (by dsimp only; omega)).trans c2
  have q2 := qf2.out w1 hb1
  clear qf2
  rcases o with _ | j
  · change Calls _ _ _ _ (fun e w' => e = .returned (.int .i64 (-1)) ∧ w' = w1) at q2
    obtain ⟨w2, hw2, hb2, hg2, hz2⟩ := loc_set (cs' := #[.string (str y1), .int .i64 3, .int .i64 (-1), .int .i64 0, .bool false, .int .u64 0, .int .u64 0]) hb1 hg1 2 (.int .i64 (-1)) rfl
    have hca := blk_cell hg1
    have hfa := blk_free hg1
    replace hz2 : z < w2.heap.size := by omega
    clear hz1
    replace hb1 := hide hb1
    replace hg1 := hide hg1
    replace hb2 := hide hb2
    replace hg2 := hide hg2
    have hgd := blk_cell hg2.out
    replace q2 := hide q2
    go_wp2_with fail
    refine (q2.out).mono ?_
    rintro e w1 ⟨rfl, rfl⟩
    go_wp2_with fail
    refine bodyPost_ret (v := .int .i64 7) (by simp [results, Tryd.results96, go_sem]) rfl ?_
    exact lineEnd_err hr.out.symm (by decide) (by rw [hz]; exact hb2.out)
  change Calls _ _ _ _ (fun e w' => e = .returned (.int .i64 (j : Int)) ∧ w' = w1) at q2
  have hr2 := hr.out
  clear hr
  dsimp only [Option.map] at hr2
  obtain ⟨w2, hw2, hb2, hg2, hz2⟩ := loc_set (cs' := #[.string (str y1), .int .i64 3, .int .i64 (j : Int), .int .i64 0, .bool false, .int .u64 0, .int .u64 0]) hb1 hg1 2 (.int .i64 (j : Int)) rfl
  have hca := blk_cell hg1
  have hfa := blk_free hg1
  replace hz2 : z < w2.heap.size := by omega
  clear hz1
  replace hb1 := hide hb1
  replace hg1 := hide hg1
  replace hb2 := hide hb2
  replace hg2 := hide hg2
  have hgd := blk_cell hg2.out
  have tj : ¬ (j : Int) < 0 := by omega
  replace q2 := hide q2
  go_wp2_with fail
  refine (q2.out).mono ?_
  rintro e w1 ⟨rfl, rfl⟩
  have c3b := (hb2.out.cell (p := ⟨b, off + 3, none⟩) (by dsimp only; omega)).trans c3
  rcases hv : lexF y3 65535 with _ | v
  · rw [hv] at hr2
    have q4 := q3.out w2
    rw [hv, lexV_none] at q4
    have hr := hide hr2
    clear hr2 hv
    replace q4 := hide q4
    go_wp2_with fail
    refine (q4.out).mono ?_
    rintro e w2 ⟨rfl, rfl⟩
    clear hca hfa hw2 hb1 hg1
    go_wp2_with fail
    refine bodyPost_ret (v := .int .i64 17) (by simp [results, Tryd.results96, go_sem]) rfl ?_
    exact lineEnd_err hr.out.symm (by decide) (by rw [hz]; exact hb2.out)
  rw [hv] at hr2
  dsimp only at hr2
  have q4 := q3.out w2
  rw [hv, lexV_some] at q4
  clear hv
  replace q4 := hide q4
  go_wp2_with fail
  refine (q4.out).mono ?_
  rintro e w2 ⟨rfl, rfl⟩
  clear hca hfa hw2 hb1 hg1
  replace hb2 := hb2.out
  replace hg2 := hg2.out
  clear hgd
  have hgc := blk_cell hg2
  by_cases hv0 : v = 0
  · subst hv0
    rw [if_pos ⟨rfl, by decide⟩] at hr2
    have hr := hide hr2
    clear hr2
    replace hb2 := hide hb2
    replace hg2 := hide hg2
    go_wp2_with fail
    refine bodyPost_ret (v := .int .i64 17) (by simp [results, Tryd.results96, go_sem]) rfl ?_
    exact lineEnd_err hr.out.symm (by decide) (by rw [hz]; exact hb2.out)
  rw [if_neg (fun e => hv0 e.1)] at hr2
  have tv : ((v : Int) == 0) = false := by rw [beq_eq_false_iff_ne]; omega
  have tv2 : ¬ (v : Int) = 0 := by omega
  clear hgc
  obtain ⟨w3, hw3, hb3, hg3, hz3⟩ := loc_set (cs' := #[.string (str y1), .int .i64 3, .int .i64 (j : Int), .int .i64 (v : Int), .bool false, .int .u64 0, .int .u64 0]) hb2 hg2 3 (.int .i64 (v : Int)) rfl
  have hca := blk_cell hg2
  have hfa := blk_free hg2
  replace hz3 : z < w3.heap.size := by omega
  clear hz2
  replace hb2 := hide hb2
  replace hg2 := hide hg2
  replace hb3 := hide hb3
  replace hg3 := hide hg3
  have hr := hide hr2
  clear hr2
  go_upto_region 18 with fail
  clear hca hfa hw3 hb2 hg2
  replace hb3 := hb3.out
  replace hg3 := hg3.out
  have kz : w3.cell? ⟨z, 0, none⟩ = some (.string (str y1)) := blk_cell hg3 0
  have q1 := qf1.out w3 hb3
  clear qf1
  replace hb3 := hide hb3
  replace hg3 := hide hg3
  rcases o1 with _ | j1
  · change Calls _ _ _ _ (fun e w' => e = .returned (.int .i64 (-1)) ∧ w' = w3) at q1
    replace q1 := hide q1
    go_wp2_with fail
    refine (q1.out).mono ?_
    rintro e w3 ⟨rfl, rfl⟩
    go_upto_region 20 with fail
    clear kz q1
    have hN := h.out.on (by rw [hz]; exact hb3.out)
    have hbb := hb3.out.mono hbz
    have hrx := row_not_x hN.cfg.nodes hN.cfg.blk hN.cfg.hT.1
    have hrz : nv.ownBlock = some z → False := fun e => by have := (World.ownsRow.lt h.out.cfg.nodes _ e).2; omega
    refine wp_region_Y [12] (KeptS w3.heap.size (fun k => nv.ownBlock = some k)) (by as_aux_lemma => kernel_rfl) ?_
    intro w4 hbd
    have hN4 := hN.on hbd
    have hge := blk_below hbd hz3 hg3.out
    have hbe := hbb.trans (hbd.mono (by omega))
    have ze := hbd.size
    have lx := fun l : RelW (KeptS w3.heap.size (fun k => nv.ownBlock = some k)) w4 => (show l.w.cell? ⟨x, 0, none⟩ = some nv from blk_cell ((l.hk.block x hN.xlt (by rcases hrx with e | e <;> (intro e2; first | (rw [e] at e2; cases e2) | exact e e2))).trans hN4.cfg.blk) 0)
    have lz := fun l : RelW (KeptS w3.heap.size (fun k => nv.ownBlock = some k)) w4 => blk_cell ((l.hk.block z hz3 hrz).trans hge)
    clear hN hg3 hbb hbd hrx hrz
    replace hN4 := hide hN4
    replace hbe := hide hbe
    refine wpY_seg [12] (KeptS w3.heap.size (fun k => nv.ownBlock = some k)) 0 7 (fuel := 6) (by as_aux_lemma => kernel_rfl) (fun d _ _ _ _ h => by cases d <;> exact h) (by as_aux_lemma => kernel_rfl) (by as_aux_lemma => kernel_rfl) (by as_aux_lemma => kernel_rfl) ?_
    simp only [List.drop_zero, List.take_succ_cons, List.take_zero]
    iterate 7 (refine wpQX_step (fun K hK => ?_); go_simp; refine hK _ ?_; clear hK K)
    refine wpQF_nil ?_
    clear lx lz hge
    obtain ⟨ND, hND⟩ : ∃ ND : Nd, ND = ⟨y1, 3, (j : Int), (v : Int), zA⟩ := ⟨_, rfl⟩
    have hC : ndC ND = [.string (str y1), .int .i64 3, .int .i64 (j : Int), .int .i64 (v : Int), .bool false, .int .u64 0, .int .u64 0] := by rw [hND]; rfl
    refine wpW_step 7 rfl (by as_aux_lemma => kernel_rfl) (fun K hK => ?_)
    go_simp
    refine hK _ _ (relY_of (keptS_of_below ((Below.refl _ _).alloc (Nat.le_refl _) _) ze)) ?_
    clear hK K
    obtain ⟨wt, hwt⟩ : ∃ wt, w4.alloc (.cells (ndC ND).toArray 148) = wt := ⟨_, rfl⟩
    have hbt : Below w4.heap.size w4 wt := hwt ▸ (Below.refl _ _).alloc (Nat.le_refl _) _
    have hnt : wt.heap[w4.heap.size]? = some (.cells (ndC ND).toArray 148 (0, 0)) := hwt ▸ blk_new _ _ _
    rw [hC] at hwt
    change wpW _ _ _ _ _ _ _ _ (w4.alloc (.cells ([.string (str y1), .int .i64 3, .int .i64 (j : Int), .int .i64 (v : Int), .bool false, .int .u64 0, .int .u64 0]).toArray 148))
    rw [hwt]
    have hNt := hN4.out.on hbt
    have hbf := hbe.out.trans (hbt.mono (by omega))
    have zt := hbt.size
    clear hwt hbt hN4 hbe
    refine wpW_step 8 rfl (by as_aux_lemma => kernel_rfl) (fun K hK => ?_)
    rw [if_pos (by unfold Region.wanted; rfl)]
    refine wp_app_c (T := 148) Tryd.underlying68 info_nd rfl (by decide) (by decide) (.tmp 108) (.tmp 110) rfl base _ c.nodes.length _ (ndC ND) w4.heap.size rfl rfl hNt.cfg.nodes hnt rfl (ndC_one _) (by omega) (by have := hs.1; omega) fun v11 w11 h1 h2 => hK _ _ (relY_of ⟨h2.grown.os, h2.grown.tape, h2.grown.output, h2.grown.size, fun k hk hne => h2.grown.block k (by omega) (fun e => hne e.symm)⟩) ?_
    clear hK K hnt
    obtain ⟨A11, c11, hv11, -, -, -⟩ := own_isv h1
    subst hv11
    obtain ⟨hx11, hL12⟩ := hNt.pushN h1 h2
    have hB11 := hbf.trans (below_of_grown h2.grown (by omega) (fun k hk => (World.ownsRow.lt hNt.cfg.nodes _ hk).1))
    have hB12 : Below base w (w11.setCell ⟨x, 0, none⟩ (.slice A11 (c.nodes.length + 1) c11)) := hB11.setCell (p := ⟨x, 0, none⟩) hbx _
    have hc : w11.cell? ⟨x, 0, none⟩ = some nv := blk_cell hx11 0
    have hf := blk_free hx11 0
    clear h1 h2 hNt hbf hB11 hx11
    obtain ⟨w12, hw12⟩ : ∃ w12, w11.setCell ⟨x, 0, none⟩ (.slice A11 (c.nodes.length + 1) c11) = w12 := ⟨_, rfl⟩
    rw [hw12] at hL12 hB12
    replace hL12 := hide hL12
    replace hB12 := hide hB12
    replace hND := hide hND
    replace hC := hide hC
    refine wpW_step 9 rfl (by as_aux_lemma => kernel_rfl) (fun K hK => ?_)
    go_simp
    refine hK _ _ (relY_of (IsRel.refl _)) ?_
    clear hK K
    refine wpW_step 10 rfl (by as_aux_lemma => kernel_rfl) (fun K hK => ?_)
    go_simp
    refine hK _ _ (relY_of (IsRel.refl _)) ?_
    clear hK K
    refine wpW_step 11 rfl (by as_aux_lemma => kernel_rfl) (fun K hK => ?_)
    go_simp
    refine hK _ _ (relY_of (IsRel.refl _)) ?_
    clear hK K
    refine wpW_step 12 rfl (by as_aux_lemma => kernel_rfl) (fun K hK => ?_)
    go_simp
    refine hK _ _ (relY_wr (by as_aux_lemma => kernel_rfl)) ?_
    clear hK K hc hf hw12
    refine wpW_done (by as_aux_lemma => kernel_rfl) ?_ _
    go_wp2_with fail
    refine bodyPost_ret (v := .int .i64 0) (by simp [results, Tryd.results96, go_sem]) rfl ?_
    have hL := hL12.out
    rw [hND.out] at hL
    exact lineEnd_ok hr.out.symm ⟨mb, ma, _, vv, wv, hL⟩ hB12.out
  change Calls _ _ _ _ (fun e w' => e = .returned (.int .i64 (j1 : Int)) ∧ w' = w3) at q1
  have tj1 : (0 : Int) ≤ (j1 : Int) := by omega
  replace q1 := hide q1
  go_wp2_with fail
  refine (q1.out).mono ?_
  rintro e w3 ⟨rfl, rfl⟩
  go_wp2_with fail
  refine bodyPost_ret (v := .int .i64 8) (by simp [results, Tryd.results96, go_sem]) rfl ?_
  exact lineEnd_err hr.out.symm (by decide) (by rw [hz]; exact hb3.out)
end Conf18
end Go.Proofs.YtbcicbiphgeghaaDoor
