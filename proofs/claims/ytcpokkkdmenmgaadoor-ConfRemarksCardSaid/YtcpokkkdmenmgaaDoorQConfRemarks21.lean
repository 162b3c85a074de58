/- tree: put: one node more. Condition: fewer than 1024 nodes. -/
import Derived.Test.YtcpokkkdmenmgaaDoorQConfRemarks20
import Derived.Test.YtcpokkkdmenmgaaDoorQConfRemarks17
import Derived.Test.YtcpokkkdmenmgaaDoorQConfRemarks8
import Derived.Test.YtcpokkkdmenmgaaDoorQConfRemarks13
import Derived.Test.YtcpokkkdmenmgaaDoorQConfRemarks3
import Derived.Test.YtcpokkkdmenmgaaDoorQConfRemarks11
import Derived.Test.YtcpokkkdmenmgaaDoorQConfRemarks12
namespace Go.Proofs.YtcpokkkdmenmgaaDoor
open Go.RowKit Go.ChangeShapes Go.WideShapes Go.ChangeAt Go.Deep
namespace Tree16
open Conf18 (Nd ndC lt_of_blk row_set row_not_x info_nd ndC_one)
theorem info_ints : (Tryd.prog.info? 109).map (fun i => (i.zero, i.size, i.bytes)) = some (some (.slice none 0 0), 1, 24) := by kernel_rfl
theorem info_int : (Tryd.prog.info? 3).map (fun i => (i.zero, i.size, i.bytes)) = some (some (.int .i64 0), 1, 8) := by kernel_rfl
theorem kids_more (ns : List Nd) (n : Nd) (hs : ∀ m ∈ ns, m.above < (ns.length : Int)) (_hn : n.above < (ns.length : Int)) :
    (List.range (ns ++ [n]).length).map (kidsF (ns ++ [n])) = if 0 ≤ n.above then ((List.range ns.length).map (kidsF ns) ++ [[]]).set n.above.toNat (kidsF ns n.above.toNat ++ [(ns.length : Int)]) else (List.range ns.length).map (kidsF ns) ++ [[]] := by
  have e1 : ∀ i : Nat, kidsF (ns ++ [n]) i = if n.above = (i : Int) then kidsF ns i ++ [(ns.length : Int)] else kidsF ns i := by
    intro i
    unfold kidsF
    rw [placesF_snoc]
    by_cases h : n.above = (i : Int)
    · rw [if_pos h, if_pos (decide_eq_true h)]
    · rw [if_neg h, if_neg (by simpa using h)]
  have e2 : kidsF ns ns.length = [] := by
    unfold kidsF placesF placesN
    rw [List.map_eq_nil_iff, List.filter_eq_nil_iff]
    intro j hj
    have hj2 := List.mem_range.1 hj
    rw [List.getElem?_eq_getElem hj2]
    have := hs _ (List.getElem_mem hj2)
    simp
    omega
  rw [List.length_append, List.length_singleton]
  apply List.ext_getElem?
  intro j
  rw [List.getElem?_map]
  by_cases hj : j < ns.length + 1
  · rw [List.getElem?_range hj]
    have hb : ((List.range ns.length).map (kidsF ns) ++ [[]])[j]? = some (kidsF ns j) := by
      by_cases hj2 : j < ns.length
      · rw [List.getElem?_append_left (by simpa using hj2), List.getElem?_map, List.getElem?_range hj2]; rfl
      · obtain rfl : j = ns.length := by omega
        rw [List.getElem?_append_right (by simp), e2]
        simp
    simp only [Option.map_some, e1]
    by_cases h0 : 0 ≤ n.above
    · rw [if_pos h0]
      by_cases h : n.above = (j : Int)
      · rw [if_pos h, show n.above.toNat = j by omega, List.getElem?_set_self (by simp; omega)]
      · rw [if_neg h, List.getElem?_set_ne (by omega), hb]
    · rw [if_neg h0, if_neg (by omega), hb]
  · rw [List.getElem?_eq_none (by simp; omega)]
    split
    · rw [List.getElem?_eq_none (by simp; omega)]; rfl
    · rw [List.getElem?_eq_none (by simp; omega)]; rfl
theorem top_more (ns : List Nd) (n : Nd) : topF (ns ++ [n]) = if n.kind = 1 then topF ns ++ [(ns.length : Int)] else topF ns := by
  unfold topF
  rw [placesF_snoc]
  by_cases h : n.kind = 1
  · rw [if_pos h, if_pos (decide_eq_true h)]
  · rw [if_neg h, if_neg (by simpa using h)]
theorem hosts_more (ns : List Nd) (n : Nd) : hostsF (ns ++ [n]) = if n.kind = 4 then hostsF ns ++ [(ns.length : Int)] else hostsF ns := by
  unfold hostsF
  rw [placesF_snoc]
  by_cases h : n.kind = 4
  · rw [if_pos h, if_pos (decide_eq_true h)]
  · rw [if_neg h, if_neg (by simpa using h)]
theorem TreeC.toM {w : World} {base x : Nat} {ns : List Nd} {nv kv tv hv : Value} {us : List Value} (h : TreeC w base x ns nv kv tv hv us) : us.length = ns.length ∧ TreeM w base x ns nv kv tv hv us (topF ns :: hostsF ns :: (List.range ns.length).map (kidsF ns)) := by
  have hl : us.length = ns.length := by have := h.kids.1; omega
  exact ⟨hl, h.blk, h.hx, h.nodes, by rw [hl]; exact h.kids, h.rows⟩
set_option maxRecDepth 20000 in
set_option maxHeartbeats 16000000 in
theorem tput_any (n : Nd) (ns : List Nd) (w : World) (base x : Nat) (hT : TreeAt w base x ns) (hlt : ns.length < 1024) (hab : n.above < (ns.length : Int)) (hk : 1 ≤ n.kind ∧ n.kind ≤ 4) :
    Calls Tryd.prog 46 #[.pointer (some ⟨x, 0, none⟩), .agg (ndA n)] w fun e w' => e = .returned (.tuple #[]) ∧ TreeAt w' base x (ns ++ [n]) ∧ Below base w w' := by
  obtain ⟨nv, kv, tv, hv, us, hC⟩ := hT
  have hsm := hC.small
  obtain ⟨hul, h⟩ := hC.toM
  have hkm := kids_more ns n hsm.2 hab
  have htm := top_more ns n
  have hhm := hosts_more ns n
  have hbx := h.hx
  have hxs := lt_of_blk h.blk
  obtain ⟨nm, kd, ab, wt, ⟨v6, hi, lo⟩⟩ := n
  obtain ⟨N, hN⟩ : ∃ N : Nd, N = ⟨nm, kd, ab, wt, ⟨v6, hi, lo⟩⟩ := ⟨_, rfl⟩
  rw [← hN] at hkm htm hhm ⊢
  have hNk : N.kind = kd := by rw [hN]
  have hNa : N.above = ab := by rw [hN]
  rw [hNk] at htm hhm
  rw [hNa] at hkm
  dsimp only at hab hk
  have hNC : (ndC N).toArray = #[.string (str nm), .int .i64 kd, .int .i64 ab, .int .i64 wt, .bool v6, .int .u64 (hi : Int), .int .u64 (lo : Int)] := by rw [hN]; rfl
  unfold ndA
  rw [show (#[.string (str N.name), .int .i64 N.kind, .int .i64 N.above, .int .i64 N.weight, .bool N.a.v6, .int .u64 (N.a.hi : Int), .int .u64 (N.a.lo : Int)] : Array Value) = #[.string (str nm), .int .i64 kd, .int .i64 ab, .int .i64 wt, .bool v6, .int .u64 (hi : Int), .int .u64 (lo : Int)] by rw [hN]]
  obtain ⟨z, hz⟩ : ∃ z, w.heap.size = z := ⟨_, rfl⟩
  obtain ⟨w1, hw1⟩ : ∃ w1, w.alloc (.cells #[.string (str nm), .int .i64 kd, .int .i64 ab, .int .i64 wt, .bool v6, .int .u64 (hi : Int), .int .u64 (lo : Int)] 72) = w1 := ⟨_, rfl⟩
  have hb1 : Below w.heap.size w w1 := hw1 ▸ (Below.refl _ _).alloc (Nat.le_refl _) _
  have hg1 : w1.heap[w.heap.size]? = some (.cells #[.string (str nm), .int .i64 kd, .int .i64 ab, .int .i64 wt, .bool v6, .int .u64 (hi : Int), .int .u64 (lo : Int)] 72 (0, 0)) := hw1 ▸ blk_new _ _ _
  have h1 := h.on hb1
  rw [hz] at hb1 hg1 hxs
  have hz1 : z < w1.heap.size := lt_of_blk hg1
  obtain ⟨An, cn, hnv, -, -, -⟩ := own_isv h1.nodes
  subst hnv
  have kx0 : w1.cell? ⟨x, 0, none⟩ = some (.slice An ns.length cn) := blk_cell h1.blk 0
  have hB1 : Below base w w1 := hb1.mono (by omega)
  have hrz : ∀ {e : TypeId} {size m : Nat} {v : Value} {ys : List Value}, w.ownsRow base e size v m ys → v.ownBlock = some z → False := fun ho e => by have := (World.ownsRow.lt ho _ e).2; omega
  have hrzn := hrz h.nodes
  have hrzk := hrz h.kids
  have hrzr := fun (i : Nat) (v : Value) (h1 : (tv :: hv :: us)[i]? = some v) => hrz (h.rows.own i v _ h1 (List.getElem?_eq_getElem (by rw [← h.rows.len]; exact (List.getElem?_eq_some_iff.1 h1).1)))
  obtain ⟨L, hL⟩ : ∃ L, ns.length = L := ⟨_, rfl⟩
  rw [hL] at kx0 hlt hab hrzn
  clear hC hb1 hrz
  replace h1 := hide h1
  replace hg1 := hide hg1
  replace hB1 := hide hB1
  replace hsm := hide hsm
  replace h := hide h
  replace hkm := hide hkm
  replace htm := hide htm
  replace hhm := hide hhm
  replace hN := hide hN
  replace hNk := hide hNk
  replace hNa := hide hNa
  replace hNC := hide hNC
  replace hrzk := hide hrzk
  replace hrzr := hide hrzr
  replace hul := hide hul
  go_enter Tryd.func46, Tryd.ntmps46
  go_upto_region 2 with fail
  clear hw1
  have hrx := row_not_x h1.out.nodes h1.out.blk (by decide)
  rw [hL] at hrx
  refine wp_region_Y [10] (KeptS w1.heap.size (fun k => (Value.slice An L cn).ownBlock = some k)) (by as_aux_lemma => kernel_rfl) ?_
  intro w2 hbd
  have h2 := h1.out.on hbd
  have hg2 := blk_below hbd hz1 hg1.out
  have hB2 := hB1.out.trans (hbd.mono (by omega))
  have ze := hbd.size
  have lx := fun l : RelW (KeptS w1.heap.size (fun k => (Value.slice An L cn).ownBlock = some k)) w2 => (show l.w.cell? ⟨x, 0, none⟩ = some (.slice An L cn) from (blk_cell ((l.hk.block x (by omega) (by rcases hrx with e | e <;> (intro e2; first | (rw [e] at e2; cases e2) | exact e e2))).trans h2.blk) 0).trans (by rw [hL]; rfl))
  have lz := fun l : RelW (KeptS w1.heap.size (fun k => (Value.slice An L cn).ownBlock = some k)) w2 => blk_cell ((l.hk.block z hz1 hrzn).trans hg2)
  clear h1 hg1 hB1 hbd hrx kx0
  replace h2 := hide h2
  replace hB2 := hide hB2
  replace hg2 := hide hg2
  refine wpY_seg [10] (KeptS w1.heap.size (fun k => (Value.slice An L cn).ownBlock = some k)) 0 6 (fuel := 5) (by as_aux_lemma => kernel_rfl) (fun d _ _ _ _ h => by cases d <;> exact h) (by as_aux_lemma => kernel_rfl) (by as_aux_lemma => kernel_rfl) (by as_aux_lemma => kernel_rfl) ?_
  simp only [List.drop_zero, List.take_succ_cons, List.take_zero]
  iterate 6 (refine wpQX_step (fun K hK => ?_); go_simp; refine hK _ ?_; clear hK K)
  refine wpQF_nil ?_
  clear lx lz
  refine wpW_step 6 rfl (by as_aux_lemma => kernel_rfl) (fun K hK => ?_)
  go_simp
  refine hK _ _ (relY_of (keptS_of_below ((Below.refl _ _).alloc (Nat.le_refl _) _) ze)) ?_
  clear hK K
  obtain ⟨wt2, hwt⟩ : ∃ wt2, w2.alloc (.cells (ndC N).toArray 72) = wt2 := ⟨_, rfl⟩
  have hbt : Below w2.heap.size w2 wt2 := hwt ▸ (Below.refl _ _).alloc (Nat.le_refl _) _
  have hnt : wt2.heap[w2.heap.size]? = some (.cells (ndC N).toArray 72 (0, 0)) := hwt ▸ blk_new _ _ _
  rw [hNC.out] at hwt
  change wpW _ _ _ _ _ _ _ _ (w2.alloc (.cells #[.string (str nm), .int .i64 kd, .int .i64 ab, .int .i64 wt, .bool v6, .int .u64 (hi : Int), .int .u64 (lo : Int)] 72))
  rw [hwt]
  have ht := h2.out.on hbt
  have hBt := hB2.out.trans (hbt.mono (by omega))
  have hgt := blk_below hbt (by omega) hg2.out
  have zt := hbt.size
  clear hwt hbt h2 hB2 hg2
  refine wpW_step 7 rfl (by as_aux_lemma => kernel_rfl) (fun K hK => ?_)
  rw [if_pos (by unfold Region.wanted; rfl)]
  refine wp_app_c (T := 72) Tryd.underlying22 info_nd rfl (by decide) (by decide) (.tmp 14) (.tmp 16) rfl base (.slice An L cn) L (ns.map ndC).flatten (ndC N) w2.heap.size rfl rfl (by have := ht.nodes; rw [hL] at this; exact this) hnt rfl (ndC_one _) (by omega) (by omega) fun v11 w11 q1 q2 => hK _ _ (relY_of ⟨q2.grown.os, q2.grown.tape, q2.grown.output, q2.grown.size, fun k hk hne => q2.grown.block k (by omega) (fun e => hne e.symm)⟩) ?_
  clear hK K hnt
  obtain ⟨A11, c11, hv11, -, -, -⟩ := own_isv q1
  subst hv11
  obtain ⟨hx11, h12⟩ := ht.pushN (n := N) (by rw [hL]; exact q1) (by rw [hL]; exact q2)
  have hlt11 := q2.grown.size
  have hB11 := hBt.trans (below_of_grown q2.grown (by omega) (fun k hk => (World.ownsRow.lt ht.nodes k (by rw [hL]; exact hk)).1))
  have hB12 : Below base w (w11.setCell ⟨x, 0, none⟩ (.slice A11 (L + 1) c11)) := hB11.setCell (p := ⟨x, 0, none⟩) hbx _
  have hgz : w11.heap[z]? = some (.cells #[.string (str nm), .int .i64 kd, .int .i64 ab, .int .i64 wt, .bool v6, .int .u64 (hi : Int), .int .u64 (lo : Int)] 72 (0, 0)) := (q2.grown.block z (by omega) (fun e => hrzn e.symm)).trans hgt
  have hgz2 : (w11.setCell ⟨x, 0, none⟩ (.slice A11 (L + 1) c11)).heap[z]? = some (.cells #[.string (str nm), .int .i64 kd, .int .i64 ab, .int .i64 wt, .bool v6, .int .u64 (hi : Int), .int .u64 (lo : Int)] 72 (0, 0)) := by
    obtain ⟨wq, g1, -, g3⟩ := store_cell hx11 0 (.slice A11 (L + 1) c11)
    rw [g1]
    exact grown_other g3 (lt_of_blk hgz) (by omega) hgz
  have hc : w11.cell? ⟨x, 0, none⟩ = some (.slice An ns.length cn) := blk_cell hx11 0
  have hf := blk_free hx11 0
  clear q1 q2 ht hBt hB11 hx11 hgt hgz
  obtain ⟨w12, hw12⟩ : ∃ w12, w11.setCell ⟨x, 0, none⟩ (.slice A11 (L + 1) c11) = w12 := ⟨_, rfl⟩
  rw [hw12] at h12 hB12 hgz2
  replace h12 := hide h12
  replace hB12 := hide hB12
  replace hgz2 := hide hgz2
  refine wpW_step 8 rfl (by as_aux_lemma => kernel_rfl) (fun K hK => ?_)
  go_simp
  refine hK _ _ (relY_of (IsRel.refl _)) ?_
  clear hK K
  refine wpW_step 9 rfl (by as_aux_lemma => kernel_rfl) (fun K hK => ?_)
  go_simp
  refine hK _ _ (relY_of (IsRel.refl _)) ?_
  clear hK K
  refine wpW_step 10 rfl (by as_aux_lemma => kernel_rfl) (fun K hK => ?_)
  go_simp
  refine hK _ _ (relY_wr (by as_aux_lemma => kernel_rfl)) ?_
  clear hK K hc hf hw12
  refine wpW_done (by as_aux_lemma => kernel_rfl) ?_ _
  obtain ⟨Ak, ck, hkv, -, -, -⟩ := own_isv h12.out.kids
  subst hkv
  have kx1 : w12.cell? ⟨x, 1, none⟩ = some (.slice Ak us.length ck) := blk_cell h12.out.blk 1
  have hbz12 : base ≤ w12.heap.size := by have := h12.out.hx; have := lt_of_blk h12.out.blk; omega
  go_upto_region 3 with fail
  apply wp_region_lit
  iterate 6 (refine wpList_plain rfl fun K hK => ?_; go_simp; refine hK _ _ ?_; clear hK K)
  refine wpl_lit_c (T := 109) Tryd.underlying108 info_ints rfl (by decide) (by decide) rfl (.tmp 24) (.tmp 25) rfl base (.slice Ak us.length ck) us.length us [.slice none 0 0] rfl rfl h12.out.kids rfl (by intro u hu; rw [List.mem_singleton] at hu; subst hu; rfl) hbz12 (by have := hul.out; omega) fun v13 w13 q1 q2 => ?_
  obtain ⟨A13, c13, hv13, -, -, -⟩ := own_isv q1
  subst hv13
  obtain ⟨hx13, h14⟩ := h12.out.pushK q1 q2
  have hB13 := hB12.out.trans (below_of_grown q2.grown hbz12 (fun k hk => (World.ownsRow.lt h12.out.kids k hk).1))
  have hB14 : Below base w (w13.setCell ⟨x, 1, none⟩ (.slice A13 (us.length + 1) c13)) := hB13.setCell (p := ⟨x, 1, none⟩) hbx _
  have hgz13 : w13.heap[z]? = some (.cells #[.string (str nm), .int .i64 kd, .int .i64 ab, .int .i64 wt, .bool v6, .int .u64 (hi : Int), .int .u64 (lo : Int)] 72 (0, 0)) := (q2.grown.block z (lt_of_blk hgz2.out) (fun e => hrzk.out e.symm)).trans hgz2.out
  have hgz14 : (w13.setCell ⟨x, 1, none⟩ (.slice A13 (us.length + 1) c13)).heap[z]? = some (.cells #[.string (str nm), .int .i64 kd, .int .i64 ab, .int .i64 wt, .bool v6, .int .u64 (hi : Int), .int .u64 (lo : Int)] 72 (0, 0)) := by
    obtain ⟨wq, g1, -, g3⟩ := store_cell hx13 1 (.slice A13 (us.length + 1) c13)
    rw [g1]
    exact grown_other g3 (lt_of_blk hgz13) (by omega) hgz13
  have hc := blk_cell hx13 1
  have hf := blk_free hx13 1
  clear q1 q2 hB13 hx13 hgz13 h12 hB12 hgz2 kx1
  obtain ⟨w14, hw14⟩ : ∃ w14, w13.setCell ⟨x, 1, none⟩ (.slice A13 (us.length + 1) c13) = w14 := ⟨_, rfl⟩
  rw [hw14] at h14 hB14 hgz14
  replace h14 := hide h14
  replace hB14 := hide hB14
  replace hgz14 := hide hgz14
  iterate 3 (refine wpList_plain rfl fun K hK => ?_; go_simp; refine hK _ _ ?_; clear hK K)
  refine wpList_nil ?_
  go_simp
  clear hc hf hw14
  have hgc14 := blk_cell hgz14.out
  have hbz14 : base ≤ w14.heap.size := by have := h14.out.hx; have := lt_of_blk h14.out.blk; omega
  go_upto_block 0 with fail
  go_cut [] (fun wx => (∃ tv' hv', TreeM wx base x (ns ++ [N]) (.slice A11 (L + 1) c11) (.slice A13 (us.length + 1) c13) tv' hv' (us ++ [.slice none 0 0]) (topF (ns ++ [N]) :: hostsF (ns ++ [N]) :: ((List.range ns.length).map (kidsF ns) ++ [[]]))) ∧ wx.heap[z]? = some (.cells #[.string (str nm), .int .i64 kd, .int .i64 ab, .int .i64 wt, .bool v6, .int .u64 (hi : Int), .int .u64 (lo : Int)] 72 (0, 0)) ∧ Below base w wx)
  case first =>
    clear hgc14
    by_cases k1 : kd = 1
    · have k4 : ¬ kd = 4 := by omega
      have t1 : (kd == 1) = true := by rw [k1]; rfl
      replace k1 := hide k1
      replace k4 := hide k4
      obtain ⟨At, ct, htv, -, -, -⟩ := own_isv (h14.out.rows.own 0 tv _ rfl rfl)
      subst htv
      obtain ⟨Y, hY⟩ : ∃ Y, topF ns = Y := ⟨_, rfl⟩
      have hoY := h14.out.rows.own 0 _ _ rfl rfl
      rw [hY] at hoY
      have kx2 : w14.cell? ⟨x, 2, none⟩ = some (.slice At Y.length ct) := by
        have := blk_cell h14.out.blk 2
        rw [hY] at this
        exact this
      have hYs : Y.length ≤ 1024 := by
        rw [← hY]
        unfold topF placesF placesN
        rw [List.length_map]
        have := List.length_filter_le (fun i => (ns[i]?).any (fun n => decide (n.kind = 1))) (List.range ns.length)
        rw [List.length_range] at this
        omega
      have hown14 : (Value.slice At Y.length ct).ownBlock = some z → False := hrzr.out 0 _ (by rw [← hY]; rfl)
      go_upto_region 6 with fail
      apply wp_region_lit
      iterate 7 (refine wpList_plain rfl fun K hK => ?_; go_simp; refine hK _ _ ?_; clear hK K)
      refine wpl_lit_c (T := 3) Tryd.underlying109 info_int rfl (by decide) (by decide) rfl (.tmp 37) (.tmp 39) rfl base (.slice At Y.length ct) Y.length (Y.map intv) [.int .i64 (L : Int)] rfl rfl hoY rfl (by intro u hu; rw [List.mem_singleton] at hu; subst hu; rfl) hbz14 (by omega) fun v15 w15 q1 q2 => ?_
      obtain ⟨A15, c15, hv15, -, -, -⟩ := own_isv q1
      subst hv15
      have h14' := h14.out
      rw [hY] at h14'
      obtain ⟨hx15, h16⟩ := TreeM.growT (m := (L : Int)) h14' q1 q2
      have hB15 := hB14.out.trans (below_of_grown q2.grown hbz14 (fun k hk => (World.ownsRow.lt hoY k hk).1))
      have hB16 : Below base w (w15.setCell ⟨x, 2, none⟩ (.slice A15 (Y.length + 1) c15)) := hB15.setCell (p := ⟨x, 2, none⟩) hbx _
      have hgz15 : w15.heap[z]? = some (.cells #[.string (str nm), .int .i64 kd, .int .i64 ab, .int .i64 wt, .bool v6, .int .u64 (hi : Int), .int .u64 (lo : Int)] 72 (0, 0)) := (q2.grown.block z (lt_of_blk hgz14.out) (fun e => hown14 e.symm)).trans hgz14.out
      have hgz16 : (w15.setCell ⟨x, 2, none⟩ (.slice A15 (Y.length + 1) c15)).heap[z]? = some (.cells #[.string (str nm), .int .i64 kd, .int .i64 ab, .int .i64 wt, .bool v6, .int .u64 (hi : Int), .int .u64 (lo : Int)] 72 (0, 0)) := by
        obtain ⟨wq, g1, -, g3⟩ := store_cell hx15 2 (.slice A15 (Y.length + 1) c15)
        rw [g1]
        exact grown_other g3 (lt_of_blk hgz15) (by omega) hgz15
      have hc := blk_cell hx15 2
      have hf := blk_free hx15 2
      clear q1 q2 hB15 hx15 hgz15 h14' kx2
      obtain ⟨w16, hw16⟩ : ∃ w16, w15.setCell ⟨x, 2, none⟩ (.slice A15 (Y.length + 1) c15) = w16 := ⟨_, rfl⟩
      rw [hw16] at h16 hB16 hgz16
      replace h16 := hide h16
      replace hB16 := hide hB16
      replace hgz16 := hide hgz16
      replace hoY := hide hoY
      replace hY := hide hY
      iterate 3 (refine wpList_plain rfl fun K hK => ?_; go_simp; refine hK _ _ ?_; clear hK K)
      refine wpList_nil ?_
      go_simp
      clear hc hf hw16
      go_wp2_with fail
      go_meet
      exact ⟨⟨_, _, by have := h16.out; rw [← hY.out] at this; rw [htm.out, hhm.out, if_pos k1.out, if_neg k4.out, hL]; rw [hL] at this; exact this⟩, hgz16.out, hB16.out⟩
    by_cases k4 : kd = 4
    · have t1 : (kd == 1) = false := by rw [k4]; rfl
      have t4 : (kd == 4) = true := by rw [k4]; rfl
      replace k1 := hide k1
      replace k4 := hide k4
      obtain ⟨At, ct, htv, -, -, -⟩ := own_isv (h14.out.rows.own 1 hv _ rfl rfl)
      subst htv
      obtain ⟨Y, hY⟩ : ∃ Y, hostsF ns = Y := ⟨_, rfl⟩
      have hoY := h14.out.rows.own 1 _ _ rfl rfl
      rw [hY] at hoY
      have kx2 : w14.cell? ⟨x, 3, none⟩ = some (.slice At Y.length ct) := by
        have := blk_cell h14.out.blk 3
        rw [hY] at this
        exact this
      have hYs : Y.length ≤ 1024 := by
        rw [← hY]
        unfold hostsF placesF placesN
        rw [List.length_map]
        have := List.length_filter_le (fun i => (ns[i]?).any (fun n => decide (n.kind = 4))) (List.range ns.length)
        rw [List.length_range] at this
        omega
      have hown14 : (Value.slice At Y.length ct).ownBlock = some z → False := hrzr.out 1 _ (by rw [← hY]; rfl)
      go_upto_region 8 with fail
      apply wp_region_lit
      iterate 7 (refine wpList_plain rfl fun K hK => ?_; go_simp; refine hK _ _ ?_; clear hK K)
      refine wpl_lit_c (T := 3) Tryd.underlying109 info_int rfl (by decide) (by decide) rfl (.tmp 49) (.tmp 51) rfl base (.slice At Y.length ct) Y.length (Y.map intv) [.int .i64 (L : Int)] rfl rfl hoY rfl (by intro u hu; rw [List.mem_singleton] at hu; subst hu; rfl) hbz14 (by omega) fun v15 w15 q1 q2 => ?_
      obtain ⟨A15, c15, hv15, -, -, -⟩ := own_isv q1
      subst hv15
      have h14' := h14.out
      rw [hY] at h14'
      obtain ⟨hx15, h16⟩ := TreeM.growH (m := (L : Int)) h14' q1 q2
      have hB15 := hB14.out.trans (below_of_grown q2.grown hbz14 (fun k hk => (World.ownsRow.lt hoY k hk).1))
      have hB16 : Below base w (w15.setCell ⟨x, 3, none⟩ (.slice A15 (Y.length + 1) c15)) := hB15.setCell (p := ⟨x, 3, none⟩) hbx _
      have hgz15 : w15.heap[z]? = some (.cells #[.string (str nm), .int .i64 kd, .int .i64 ab, .int .i64 wt, .bool v6, .int .u64 (hi : Int), .int .u64 (lo : Int)] 72 (0, 0)) := (q2.grown.block z (lt_of_blk hgz14.out) (fun e => hown14 e.symm)).trans hgz14.out
      have hgz16 : (w15.setCell ⟨x, 3, none⟩ (.slice A15 (Y.length + 1) c15)).heap[z]? = some (.cells #[.string (str nm), .int .i64 kd, .int .i64 ab, .int .i64 wt, .bool v6, .int .u64 (hi : Int), .int .u64 (lo : Int)] 72 (0, 0)) := by
        obtain ⟨wq, g1, -, g3⟩ := store_cell hx15 3 (.slice A15 (Y.length + 1) c15)
        rw [g1]
        exact grown_other g3 (lt_of_blk hgz15) (by omega) hgz15
      have hc := blk_cell hx15 3
      have hf := blk_free hx15 3
      clear q1 q2 hB15 hx15 hgz15 h14' kx2
      obtain ⟨w16, hw16⟩ : ∃ w16, w15.setCell ⟨x, 3, none⟩ (.slice A15 (Y.length + 1) c15) = w16 := ⟨_, rfl⟩
      rw [hw16] at h16 hB16 hgz16
      replace h16 := hide h16
      replace hB16 := hide hB16
      replace hgz16 := hide hgz16
      replace hoY := hide hoY
      replace hY := hide hY
      iterate 3 (refine wpList_plain rfl fun K hK => ?_; go_simp; refine hK _ _ ?_; clear hK K)
      refine wpList_nil ?_
      go_simp
      clear hc hf hw16
      go_wp2_with fail
      go_meet
      exact ⟨⟨_, _, by have := h16.out; rw [← hY.out] at this; rw [htm.out, hhm.out, if_neg k1.out, if_pos k4.out, hL]; rw [hL] at this; exact this⟩, hgz16.out, hB16.out⟩
    have t1 : (kd == 1) = false := by rw [beq_eq_false_iff_ne]; exact k1
    have t4 : (kd == 4) = false := by rw [beq_eq_false_iff_ne]; exact k4
    go_wp2_with fail
    go_meet
    exact ⟨⟨_, _, by rw [htm.out, hhm.out, if_neg k1, if_neg k4]; exact h14.out⟩, hgz14.out, hB14.out⟩
  case rest =>
  obtain ⟨⟨tv', hv', hM⟩, hgw, hBw⟩ := hcut
  clear h14 hgz14 hB14 hgc14 hbz14
  have hgwc := blk_cell hgw
  have hzw := lt_of_blk hgw
  have hrN : ∀ m ∈ ns ++ [N], m.above < ((ns ++ [N]).length : Int) := by
    intro m hm
    rw [List.length_append, List.length_singleton]
    rcases List.mem_append.1 hm with h9 | h9
    · have := hsm.out.2 m h9
      omega
    · rw [List.mem_singleton] at h9
      rw [h9, hNa.out]
      omega
  have hsm2 : (ns ++ [N]).length ≤ 1024 ∧ (∀ m ∈ ns ++ [N], m.above < ((ns ++ [N]).length : Int)) := ⟨by rw [List.length_append, List.length_singleton]; omega, hrN⟩
  have hlen2 : (ns ++ [N]).length = L + 1 := by rw [List.length_append, List.length_singleton, hL]
  by_cases h0 : 0 ≤ ab
  case neg =>
    have hfin : TreeAt wc base x (ns ++ [N]) := ⟨_, _, _, _, _, hM.blk, hM.hx, hM.nodes, by have := hM.kids; rw [show (us ++ [Value.slice none 0 0]).length = (ns ++ [N]).length by simp [hul.out]] at this; exact this, by rw [hkm.out, if_neg h0]; exact hM.rows, hsm2⟩
    clear hgw hM
    replace hfin := hide hfin
    replace hBw := hide hBw
    go_wp2_with fail
    exact bodyPost_end (v := .tuple #[]) (by simp [results, Tryd.results46, go_sem]) rfl ⟨rfl, hfin.out, hBw.out⟩
  obtain ⟨a, rfl⟩ : ∃ a : Nat, ab = (a : Int) := ⟨ab.toNat, by omega⟩
  have haL : a < us.length := by rw [hul.out]; omega
  obtain ⟨v, hva⟩ : ∃ v, us[a]? = some v := ⟨_, List.getElem?_eq_getElem haL⟩
  have hva2 : (us ++ [Value.slice none 0 0])[a]? = some v := by rw [List.getElem?_append_left haL]; exact hva
  have hxa : (topF (ns ++ [N]) :: hostsF (ns ++ [N]) :: ((List.range ns.length).map (kidsF ns) ++ [[]]))[a + 2]? = some (kidsF ns a) := by
    rw [List.getElem?_cons_succ, List.getElem?_cons_succ, List.getElem?_append_left (by simp; omega), List.getElem?_map, List.getElem?_range (by omega)]
    rfl
  have hoV := hM.rows.own (a + 2) v (kidsF ns a) hva2 hxa
  have hYs : (kidsF ns a).length ≤ 1024 := by
    unfold kidsF placesF placesN
    rw [List.length_map]
    have := List.length_filter_le (fun i => (ns[i]?).any (fun n => decide (n.above = (a : Int)))) (List.range ns.length)
    rw [List.length_range] at this
    omega
  have hvz := hrzr.out (a + 2) v hva
  obtain ⟨Y, hY⟩ : ∃ Y, kidsF ns a = Y := ⟨_, rfl⟩
  rw [hY] at hoV hYs hxa
  obtain ⟨Av, cv, hvv, -, -, -⟩ := own_isv hoV
  obtain ⟨gk, ck2, cur, ek, hgkb, -, -, hgk, hck, -, hcv⟩ := row_upd hM.kids (i := a) (by rw [List.length_append]; omega) v
  have hcv2 : cur[a]? = some v := by rw [← hcv]; exact hva2
  have hek : A13 = some ⟨gk, 0, none⟩ ∧ c13 = ck2 := by
    simp only [Value.slice.injEq] at ek
    exact ⟨ek.1, ek.2.2⟩
  obtain ⟨rfl, rfl⟩ := hek
  have hrx := row_not_x hoV hM.blk (by decide)
  have hrg := row_not_x hoV hgk (by decide)
  have hxlt := lt_of_blk hM.blk
  have hglt := lt_of_blk hgk
  have hbzw : base ≤ wc.heap.size := by omega
  subst hvv
  have ia : (a : Int) < (us.length : Int) + 1 := by omega
  clear hcv ek
  replace hM := hide hM
  replace hgw := hide hgw
  replace hBw := hide hBw
  replace hoV := hide hoV
  replace hgk := hide hgk
  go_upto_region 10 with fail
  refine wp_region_Y [18] (KeptS wc.heap.size (fun k => (Value.slice Av Y.length cv).ownBlock = some k)) (by as_aux_lemma => kernel_rfl) ?_
  intro we hbd
  have hMe := hM.out.on hbd
  have hge := blk_below hbd hzw hgw.out
  have hke := blk_below hbd hglt hgk.out
  have hBe := hBw.out.trans (hbd.mono hbzw)
  have ze := hbd.size
  have lx := fun l : RelW (KeptS wc.heap.size (fun k => (Value.slice Av Y.length cv).ownBlock = some k)) we => (show l.w.cell? ⟨x, 1, none⟩ = some (.slice (some ⟨gk, 0, none⟩) (us.length + 1) c13) from blk_cell ((l.hk.block x hxlt (by rcases hrx with e | e <;> (intro e2; first | (rw [e] at e2; cases e2) | exact e e2))).trans hMe.blk) 1)
  have lz := fun l : RelW (KeptS wc.heap.size (fun k => (Value.slice Av Y.length cv).ownBlock = some k)) we => blk_cell ((l.hk.block z hzw hvz).trans hge)
  have lg := fun l : RelW (KeptS wc.heap.size (fun k => (Value.slice Av Y.length cv).ownBlock = some k)) we => (blk_cell ((l.hk.block gk hglt (by rcases hrg with e | e <;> (intro e2; first | (rw [e] at e2; cases e2) | exact e e2))).trans hke) a).trans hcv2
  clear hM hgw hBw hgk hbd hrx hrg hgwc
  replace hMe := hide hMe
  replace hBe := hide hBe
  replace hke := hide hke
  replace hge := hide hge
  refine wpY_seg [18] (KeptS wc.heap.size (fun k => (Value.slice Av Y.length cv).ownBlock = some k)) 0 15 (fuel := 4) (by as_aux_lemma => kernel_rfl) (fun d _ _ _ _ h => by cases d <;> exact h) (by as_aux_lemma => kernel_rfl) (by as_aux_lemma => kernel_rfl) (by as_aux_lemma => kernel_rfl) ?_
  simp only [List.drop_zero, List.take_succ_cons, List.take_zero]
  iterate 15 (refine wpQX_step (fun K hK => ?_); go_simp; refine hK _ ?_; clear hK K)
  refine wpQF_nil ?_
  clear lx lz lg
  refine wpW_step 15 rfl (by as_aux_lemma => kernel_rfl) (fun K hK => ?_)
  go_simp
  refine hK _ _ (relY_of (keptS_of_below ((Below.refl _ _).alloc (Nat.le_refl _) _) ze)) ?_
  clear hK K
  obtain ⟨wt2', hwt⟩ : ∃ wt2', we.alloc (.cells #[.int .i64 (L : Int)] 3) = wt2' := ⟨_, rfl⟩
  have hbt : Below we.heap.size we wt2' := hwt ▸ (Below.refl _ _).alloc (Nat.le_refl _) _
  have hnt : wt2'.heap[we.heap.size]? = some (.cells ([.int .i64 (L : Int)] : List Value).toArray 3 (0, 0)) := hwt ▸ blk_new _ _ _
  change wpW _ _ _ _ _ _ _ _ (we.alloc (.cells #[.int .i64 (L : Int)] 3))
  rw [hwt]
  have hMt := hMe.out.on hbt
  have hBt := hBe.out.trans (hbt.mono (by omega))
  have zt := hbt.size
  clear hwt hbt hMe hBe hke hge
  refine wpW_step 16 rfl (by as_aux_lemma => kernel_rfl) (fun K hK => ?_)
  rw [if_pos (by unfold Region.wanted; rfl)]
  refine wp_app_c (T := 3) Tryd.underlying109 info_int rfl (by decide) (by decide) (.tmp 71) (.tmp 73) rfl base (.slice Av Y.length cv) Y.length (Y.map intv) [.int .i64 (L : Int)] we.heap.size rfl rfl (hMt.rows.own (a + 2) _ _ hva2 hxa) hnt rfl (by intro u hu; rw [List.mem_singleton] at hu; subst hu; rfl) (by omega) (by omega) fun v11 w11 q1 q2 => hK _ _ (relY_of ⟨q2.grown.os, q2.grown.tape, q2.grown.output, q2.grown.size, fun k hk hne => q2.grown.block k (by omega) (fun e => hne e.symm)⟩) ?_
  clear hK K hnt
  obtain ⟨A21, c21, hv21, -, -, -⟩ := own_isv q1
  subst hv21
  obtain ⟨gk2, ck3, cur2, ek2, hgk2b, hgk2, hcur2, hM2⟩ := hMt.growK (a := a) (m := (L : Int)) hva2 hxa q1 q2
  obtain ⟨rfl, rfl⟩ : gk = gk2 ∧ c13 = ck3 := by
    simp only [Value.slice.injEq, Option.some.injEq, Addr.mk.injEq] at ek2
    exact ⟨ek2.1.1, ek2.2.2⟩
  have hB11 := hBt.trans (below_of_grown q2.grown (by omega) (fun k hk => (World.ownsRow.lt (hMt.rows.own (a + 2) _ _ hva2 hxa) k hk).1))
  have hB12 : Below base w (w11.setCell ⟨gk, a, none⟩ (.slice A21 (Y.length + 1) c21)) := hB11.setCell (p := ⟨gk, a, none⟩) hgk2b _
  have hc := (blk_cell hgk2 a).trans hcur2
  have hf := blk_free hgk2 a
  obtain ⟨w12', hw12⟩ : ∃ w12', w11.setCell ⟨gk, a, none⟩ (.slice A21 (Y.length + 1) c21) = w12' := ⟨_, rfl⟩
  rw [hw12] at hM2 hB12
  have hfin : TreeAt w12' base x (ns ++ [N]) := ⟨_, _, _, _, _, hM2.blk, hM2.hx, hM2.nodes, by have := hM2.kids; rw [List.length_set, show (us ++ [Value.slice none 0 0]).length = (ns ++ [N]).length by simp [hul.out]] at this; exact this, by have hr9 := hM2.rows; rw [hL] at hr9; rw [hkm.out, if_pos h0, Int.toNat_natCast, hY, hL]; exact hr9, hsm2⟩
  clear q1 q2 hMt hBt hB11 hM2 hgk2 hcur2 ek2
  replace hfin := hide hfin
  replace hB12 := hide hB12
  refine wpW_step 17 rfl (by as_aux_lemma => kernel_rfl) (fun K hK => ?_)
  go_simp
  refine hK _ _ (relY_of (IsRel.refl _)) ?_
  clear hK K
  refine wpW_step 18 rfl (by as_aux_lemma => kernel_rfl) (fun K hK => ?_)
  go_simp
  refine hK _ _ (relY_wr (by as_aux_lemma => kernel_rfl)) ?_
  clear hK K hc hf hw12
  refine wpW_done (by as_aux_lemma => kernel_rfl) ?_ _
  exact bodyPost_end (v := .tuple #[]) (by simp [results, Tryd.results46, go_sem]) rfl ⟨rfl, hfin.out, hB12.out⟩
end Tree16
end Go.Proofs.YtcpokkkdmenmgaaDoor
/- The walk of ConfParses: it answers true. Condition: the cell of bytealg.MaxLen. -/
namespace Go.Proofs.YtcpokkkdmenmgaaDoor
open Go.RowKit Go.ChangeShapes Go.WideShapes Go.ChangeAt Go.Deep
namespace Conf18
open Addr05
/-- What a reader comes to, as values that were there. -/
def ReadEnd (s : List UInt8) (w w' : World) (e : Ending) : Prop :=
  Below w.heap.size w w' ∧ ∃ (c : Cfg) (no : Nat) (en : Int) (A1 A2 A3 : Option Addr) (k1 k2 k3 : Nat), (match confF s with | .error p => (zeroC, p.1, p.2) | .ok c => (c, 0, 0)) = (c, no, en) ∧ c.small 4096 ∧
    e = .returned (.tuple #[.agg (cfC c (.slice A1 c.nodes.length k1) (.slice A2 c.vips.length k2) (.slice A3 c.views.length k3)), .int .i64 (no : Int), .int .i64 en]) ∧ CfgR w' w'.heap.size c A1 A2 A3 k1 k2 k3
theorem readEnd_of {s : List UInt8} {w w' : World} {e : Ending} (h : ParseEnd s w w' e) : ReadEnd s w w' e := by
  obtain ⟨hb, ⟨p, hp, he⟩ | ⟨c, v, hp, he, hv, hs⟩⟩ := h
  · obtain ⟨A1, A2, A3, k1, k2, k3, e1, hR⟩ := (CfgV.zero w' w'.heap.size).open
    rw [e1] at he
    exact ⟨hb, zeroC, p.1, p.2, A1, A2, A3, k1, k2, k3, by rw [hp], ⟨Nat.zero_le _, Nat.zero_le _, Nat.zero_le _⟩, he, hR⟩
  · obtain ⟨A1, A2, A3, k1, k2, k3, e1, hR⟩ := hv.open
    rw [e1] at he
    exact ⟨hb, c, 0, 0, A1, A2, A3, k1, k2, k3, by rw [hp], hs, he, hR⟩
end Conf18
end Go.Proofs.YtcpokkkdmenmgaaDoor
/- conf: a given configuration is read as nodes, vips and views. No condition. -/
namespace Go.Proofs.YtcpokkkdmenmgaaDoor
open Go.RowKit Go.ChangeShapes Go.WideShapes Go.ChangeAt Go.Deep
namespace Conf18
open Addr05
theorem leafsNd : leafsOf Tryd.prog 5 72 0 = some [(9, 0), (3, 1), (3, 2), (3, 3), (4, 4), (25, 5), (25, 6)] := by kernel_rfl
theorem cellsNd : Tryd.prog.cellsOf 72 = 7 := by kernel_rfl
theorem leafsVp : leafsOf Tryd.prog 5 77 0 = some [(4, 0), (25, 1), (25, 2), (3, 3), (3, 4), (3, 5), (4, 6)] := by kernel_rfl
theorem cellsVp : Tryd.prog.cellsOf 77 = 7 := by kernel_rfl
theorem leafsVw : leafsOf Tryd.prog 5 82 0 = some [(4, 0), (25, 1), (25, 2), (3, 3), (3, 4)] := by kernel_rfl
theorem cellsVw : Tryd.prog.cellsOf 82 = 5 := by kernel_rfl
def Nd.fits (n : Nd) : Prop := n.a.ok ∧ n.name.length ≤ 9223372036854775807
def Vp.fits (v : Vp) : Prop := v.a.ok
def Vw.fits (v : Vw) : Prop := v.a.ok
section
variable {H : Type} {enc : TypeId × Value → H} {w : World} {spare : Nat → Bool} {held : Bool}
theorem open_nds {m : Nat} {v : Value} {y : DataW H × List MemPlace} (h : DataW.trod enc Tryd.prog w 0 spare held m 22 [v] = some y) :
    ∃ A n c es, v = .slice A n c ∧ (IsT ndC 7 w w.heap.size A n es ∧ ∀ x ∈ es, Nd.fits x) ∧ n ≤ c ∧ c ≤ maxLen :=
  open_structs Nd.fits Tryd.underlying22 cellsNd (by omega) (fun n cs y h hcl => by
    have hlf := trod_leafs cs 5 72 0 _ n y leafsNd (by rw [cellsNd, List.drop_zero, List.take_of_length_le (by omega)]; exact h)
    match cs, hcl with
    | [a, b, c, d, e, f, g], _ =>
      obtain ⟨_, _, t0⟩ := hlf 9 0 (by simp)
      obtain ⟨_, _, t1⟩ := hlf 3 1 (by simp)
      obtain ⟨_, _, t2⟩ := hlf 3 2 (by simp)
      obtain ⟨_, _, t3⟩ := hlf 3 3 (by simp)
      obtain ⟨_, _, t4⟩ := hlf 4 4 (by simp)
      obtain ⟨_, _, t5⟩ := hlf 25 5 (by simp)
      obtain ⟨_, _, t6⟩ := hlf 25 6 (by simp)
      simp only [List.drop_succ_cons, List.drop_zero, List.take_succ_cons, List.take_zero] at t0 t1 t2 t3 t4 t5 t6
      obtain ⟨s, e0, _, h0⟩ := DataW.trod_string Tryd.underlying9 t0
      cases e0
      obtain ⟨k, rfl, _⟩ := open_i64 t1
      obtain ⟨u, rfl, _⟩ := open_i64 t2
      obtain ⟨x, rfl, _⟩ := open_i64 t3
      obtain ⟨v6, rfl⟩ := open_bool' t4
      obtain ⟨hi, rfl, h1⟩ := open_u64n t5
      obtain ⟨lo, rfl, h2⟩ := open_u64n t6
      refine ⟨⟨s.data.toList, k, u, x, ⟨v6, hi, lo⟩⟩, ?_, ⟨h1, h2⟩, ?_⟩
      · show _ = [Value.string (str s.data.toList), _, _, _, _, _, _]
        rw [show str s.data.toList = s by cases s; rfl]
      · simp only
        rw [Array.length_toList]
        unfold maxLen at h0
        exact h0) h
theorem open_vps {m : Nat} {v : Value} {y : DataW H × List MemPlace} (h : DataW.trod enc Tryd.prog w 0 spare held m 23 [v] = some y) :
    ∃ A n c es, v = .slice A n c ∧ (IsT vpC 7 w w.heap.size A n es ∧ ∀ x ∈ es, Vp.fits x) ∧ n ≤ c ∧ c ≤ maxLen :=
  open_structs Vp.fits Tryd.underlying23 cellsVp (by omega) (fun n cs y h hcl => by
    have hlf := trod_leafs cs 5 77 0 _ n y leafsVp (by rw [cellsVp, List.drop_zero, List.take_of_length_le (by omega)]; exact h)
    match cs, hcl with
    | [a, b, c, d, e, f, g], _ =>
      obtain ⟨_, _, t0⟩ := hlf 4 0 (by simp)
      obtain ⟨_, _, t1⟩ := hlf 25 1 (by simp)
      obtain ⟨_, _, t2⟩ := hlf 25 2 (by simp)
      obtain ⟨_, _, t3⟩ := hlf 3 3 (by simp)
      obtain ⟨_, _, t4⟩ := hlf 3 4 (by simp)
      obtain ⟨_, _, t5⟩ := hlf 3 5 (by simp)
      obtain ⟨_, _, t6⟩ := hlf 4 6 (by simp)
      simp only [List.drop_succ_cons, List.drop_zero, List.take_succ_cons, List.take_zero] at t0 t1 t2 t3 t4 t5 t6
      obtain ⟨v6, rfl⟩ := open_bool' t0
      obtain ⟨hi, rfl, h1⟩ := open_u64n t1
      obtain ⟨lo, rfl, h2⟩ := open_u64n t2
      obtain ⟨p, rfl, _⟩ := open_i64 t3
      obtain ⟨q, rfl, _⟩ := open_i64 t4
      obtain ⟨k, rfl, _⟩ := open_i64 t5
      obtain ⟨b, rfl⟩ := open_bool' t6
      exact ⟨⟨⟨v6, hi, lo⟩, p, q, k, b⟩, rfl, h1, h2⟩) h
theorem open_vws {m : Nat} {v : Value} {y : DataW H × List MemPlace} (h : DataW.trod enc Tryd.prog w 0 spare held m 24 [v] = some y) :
    ∃ A n c es, v = .slice A n c ∧ (IsT vwC 5 w w.heap.size A n es ∧ ∀ x ∈ es, Vw.fits x) ∧ n ≤ c ∧ c ≤ maxLen :=
  open_structs Vw.fits Tryd.underlying24 cellsVw (by omega) (fun n cs y h hcl => by
    have hlf := trod_leafs cs 5 82 0 _ n y leafsVw (by rw [cellsVw, List.drop_zero, List.take_of_length_le (by omega)]; exact h)
    match cs, hcl with
    | [a, b, c, d, e], _ =>
      obtain ⟨_, _, t0⟩ := hlf 4 0 (by simp)
      obtain ⟨_, _, t1⟩ := hlf 25 1 (by simp)
      obtain ⟨_, _, t2⟩ := hlf 25 2 (by simp)
      obtain ⟨_, _, t3⟩ := hlf 3 3 (by simp)
      obtain ⟨_, _, t4⟩ := hlf 3 4 (by simp)
      simp only [List.drop_succ_cons, List.drop_zero, List.take_succ_cons, List.take_zero] at t0 t1 t2 t3 t4
      obtain ⟨v6, rfl⟩ := open_bool' t0
      obtain ⟨hi, rfl, h1⟩ := open_u64n t1
      obtain ⟨lo, rfl, h2⟩ := open_u64n t2
      obtain ⟨p, rfl, _⟩ := open_i64 t3
      obtain ⟨q, rfl, _⟩ := open_i64 t4
      exact ⟨⟨⟨v6, hi, lo⟩, p, q⟩, rfl, h1, h2⟩) h
end
/-- A configuration that was given, as one that lies in memory. -/
theorem cfg_given {w : World} {A1 A2 A3 : Option Addr} {n1 n2 n3 k1 k2 k3 : Nat} {e1 : List Nd} {e2 : List Vp} {e3 : List Vw} {f d : Int} {a a' : Bool} {b e b' e' : Int}
    (h1 : IsT ndC 7 w w.heap.size A1 n1 e1 ∧ ∀ x ∈ e1, Nd.fits x) (h2 : IsT vpC 7 w w.heap.size A2 n2 e2 ∧ ∀ x ∈ e2, Vp.fits x) (h3 : IsT vwC 5 w w.heap.size A3 n3 e3 ∧ ∀ x ∈ e3, Vw.fits x)
    (g1 : (Lit.int .u64 b).wf = true) (g2 : (Lit.int .u64 e).wf = true) (g3 : (Lit.int .u64 b').wf = true) (g4 : (Lit.int .u64 e').wf = true) :
    ∃ c : Cfg, CfgR w w.heap.size c A1 A2 A3 k1 k2 k3 ∧ c.good 9223372036854775807 ∧ c.nodes.length = n1 ∧ c.vips.length = n2 ∧ c.views.length = n3 ∧
      #[.slice A1 n1 k1, .slice A2 n2 k2, .slice A3 n3 k3, .int .i64 f, .int .i64 d, .bool a, .int .u64 b, .int .u64 e, .bool a', .int .u64 b', .int .u64 e'] = cfC c (.slice A1 c.nodes.length k1) (.slice A2 c.vips.length k2) (.slice A3 c.views.length k3) := by
  obtain ⟨b, rfl, g1'⟩ := u64_nat g1
  obtain ⟨e, rfl, g2'⟩ := u64_nat g2
  obtain ⟨b', rfl, g3'⟩ := u64_nat g3
  obtain ⟨e', rfl, g4'⟩ := u64_nat g4
  obtain ⟨h1a, h1b⟩ := h1
  obtain ⟨h2a, h2b⟩ := h2
  obtain ⟨h3a, h3b⟩ := h3
  obtain rfl := h1a.1
  obtain rfl := h2a.1
  obtain rfl := h3a.1
  exact ⟨⟨e1, e2, e3, f, d, ⟨a, b, e⟩, ⟨a', b', e'⟩, false, false⟩, ⟨h1a, h2a, h3a⟩, ⟨fun n hn => h1b n hn, fun v hv => h2b v hv, fun v hv => h3b v hv, ⟨g1', g2'⟩, ⟨g3', g4'⟩⟩, rfl, rfl, rfl, rfl⟩
end Conf18
end Go.Proofs.YtcpokkkdmenmgaaDoor
/- tree: New. Condition: fewer than 2^40 nodes, names of at most 2^40 bytes. -/
namespace Go.Proofs.YtcpokkkdmenmgaaDoor
open Go.RowKit Go.ChangeShapes Go.WideShapes Go.ChangeAt Go.Deep
namespace Tree16
open Conf18 (Nd ndC lt_of_blk nd_one alloc_nd isRel_below)
theorem right_zero {n : Nd} {l : List Nd} (h : rightF n l = 0) : 1 ≤ n.kind ∧ n.kind ≤ 4 ∧ n.above < (l.length : Int) := by
  unfold rightF at h
  split at h
  · cases h
  · rename_i h1
    split at h
    · cases h
    · split at h
      · cases h
      · rename_i h3
        rw [not_or, not_or] at h1
        refine ⟨by omega, by omega, ?_⟩
        by_cases hk : n.kind = 1
        · have : n.above = -1 := by
            by_cases e : n.above = -1
            · exact e
            · exact absurd (.inl ⟨hk, e⟩) h3
          omega
        · rcases Int.lt_or_le n.above (l.length : Int) with h4 | h4
          · exact h4
          · exact absurd (.inr ⟨by omega, .inr h4⟩) h3
def TNewEnd (l : List Nd) (w w' : World) (e : Ending) : Prop :=
  Below w.heap.size w w' ∧ ((∃ p, treeF l = some p ∧ 0 < p.2 ∧ e = .returned (.tuple #[.pointer none, .int .i64 (p.1 : Int), .int .i64 (p.2 : Int)])) ∨ (treeF l = none ∧ ∃ x, e = .returned (.tuple #[.pointer (some ⟨x, 0, none⟩), .int .i64 0, .int .i64 0]) ∧ TreeAt w' w.heap.size x l))
set_option maxRecDepth 20000 in
set_option maxHeartbeats 16000000 in
theorem tnew_any (l : List Nd) (k cap : Nat) (A : Option Addr) (w : World) (hl : IsT ndC 7 w w.heap.size A k l) (hcap : k ≤ cap) (_hcm : cap ≤ maxLen) (hk : k ≤ 1099511627776) (hnm : ∀ x ∈ l, x.name.length ≤ 9223372036854775807) :
    Calls Tryd.prog 27 #[.slice A k cap] w fun e w' => TNewEnd l w w' e := by
  have hlen := hl.1
  obtain ⟨w1, hw1⟩ : ∃ w1, w.alloc (.cells #[.slice none 0 0, .slice none 0 0, .slice none 0 0, .slice none 0 0] 111) = w1 := ⟨_, rfl⟩
  have hB : Below w.heap.size w w1 := hw1 ▸ (Below.refl _ _).alloc (Nat.le_refl _) _
  have hg : w1.heap[w.heap.size]? = some (.cells #[.slice none 0 0, .slice none 0 0, .slice none 0 0, .slice none 0 0] 111 (0, 0)) := hw1 ▸ blk_new _ _ _
  have hT0 : TreeAt w1 w.heap.size w.heap.size (l.take 0) := by
    refine ⟨_, _, _, _, [], hg, Nat.le_refl _, World.ownsRow_nil _ _ _ _, World.ownsRow_nil _ _ _ _, ⟨rfl, ?_, ?_⟩, Nat.zero_le _, fun n hn => by cases hn⟩
    · intro i v x h1 h2
      rcases i with _ | _ | i
      · cases h1; cases h2; exact World.ownsRow_nil _ _ _ _
      · cases h1; cases h2; exact World.ownsRow_nil _ _ _ _
      · simp at h1
    · intro i j v u g h1 h2 h3 h4
      rcases i with _ | _ | i
      · cases h1; cases h3
      · cases h1; cases h3
      · simp at h1
  obtain ⟨b, hb⟩ : ∃ b, w.heap.size = b := ⟨_, rfl⟩
  unfold TNewEnd
  rw [hb] at hB hT0 hl
  clear hg
  replace hB := hide hB
  replace hT0 := hide hT0
  replace hl := hide hl
  replace hnm := hide hnm
  go_enter Tryd.func27, Tryd.ntmps27
  go_upto_region 2 with fail
  clear hw1
  go_wp2_with fail
  go_loopw [2, 3, 4, 6, 7, 8, 13] (fun _ _ _ _ _ _ iv wr => ∃ i : Nat, i ≤ k ∧ iv = .int .i64 (i : Int) ∧ treeE l i = none ∧ TreeAt wr b b (l.take i) ∧ Below b w wr) (fun _ _ _ _ _ _ iv _ => k - (intOf iv).toNat)
  case atStart => exact ⟨0, by omega, rfl, rfl, hT0.out, hB.out⟩
  case round =>
    obtain ⟨i, hi, rfl, hE, hT, hBr⟩ := hrel
    by_cases hin : i < k
    · have hlt : (i : Int) < (k : Int) := by omega
      obtain ⟨bl, off, n, rfl, hbl, hni, hcell⟩ := IsT.at (f := ndC) (size := 7) (fun _ => rfl) (by decide) (hl.out.below hBr) hin
      have hnl := hnm.out n (List.mem_of_getElem? hni)
      have htl : (l.take i).length = i := by rw [List.length_take]; omega
      have htk : l.take i ++ [n] = l.take (i + 1) := by rw [List.take_add_one, hni]; rfl
      have wi1 : IntKind.i64.wrap ((i : Int) + 1) = ((i + 1 : Nat) : Int) := by rw [wraps62 _ (by omega) (by omega)]; omega
      have qr := fun (w' : World) (hl' : IsT ndC 7 w' w'.heap.size (some ⟨bl, off, none⟩) i (l.take i)) => right_any n (l.take i) i cap (some ⟨bl, off, none⟩) w' hl' (by omega) hnl
      have qp := fun (w' : World) (hT' : TreeAt w' b b (l.take i)) => tput_any n (l.take i) w' b b hT'
      have hbadS := fun hb => treeE_some hE hni hb
      have hbadN := fun hb => treeE_next hE hni hb
      unfold badF at hbadS hbadN
      obtain ⟨R, hR⟩ : ∃ R, rightF n (l.take i) = R := ⟨_, rfl⟩
      have hRz := fun (h : R = 0) => right_zero (hR.trans h)
      rw [hR] at hbadS hbadN qr
      rw [htl] at hRz hbadS hbadN qp
      clear hE hni hR
      obtain ⟨nm, kd, ab, wt, ⟨v6, hi', lo⟩⟩ := n
      have y0 : wr.cell? ⟨bl, off + i * 7, none⟩ = some (.string (str nm)) := hcell 0 _ rfl
      have y1 : wr.cell? ⟨bl, off + i * 7 + 1, none⟩ = some (.int .i64 kd) := hcell 1 _ rfl
      have y2 : wr.cell? ⟨bl, off + i * 7 + 2, none⟩ = some (.int .i64 ab) := hcell 2 _ rfl
      have y3 : wr.cell? ⟨bl, off + i * 7 + 3, none⟩ = some (.int .i64 wt) := hcell 3 _ rfl
      have y4 : wr.cell? ⟨bl, off + i * 7 + 4, none⟩ = some (.bool v6) := hcell 4 _ rfl
      have y5 : wr.cell? ⟨bl, off + i * 7 + 5, none⟩ = some (.int .u64 (hi' : Int)) := hcell 5 _ rfl
      have y6 : wr.cell? ⟨bl, off + i * 7 + 6, none⟩ = some (.int .u64 (lo : Int)) := hcell 6 _ rfl
      unfold ndA at qr qp
      dsimp only at qr qp hRz hbadS hbadN
      clear hcell
      have hzr := hBr.size
      replace qr := hide qr
      replace qp := hide qp
      replace hRz := hide hRz
      replace hbadS := hide hbadS
      replace hbadN := hide hbadN
      replace hT := hide hT
      replace hBr := hide hBr
      replace htk := hide htk
      replace htl := hide htl
      go_upto_region 4 with fail
      apply wp_region_lit
      iterate 3 (refine wpList_plain rfl fun K hK => ?_; go_simp; refine hK _ _ ?_; clear hK K)
      refine wpl_newm rfl rfl rfl 72 _ (alloc_nd _ rfl) 7 6 rfl rfl (.int .i64 (i : Int)) (fun _ => rfl) (.tmp 17) rfl _ (fun _ => rfl) (fun _ => rfl) rfl (by kernel_rfl) (nd_one (str nm) kd ab wt v6 (hi' : Int) (lo : Int)) ?_
      intro w4 hg4 hb4 hz4
      refine wpList_nil ?_
      go_simp
      have hT4 : TreeAt w4 b b (l.take i) := by
        obtain ⟨nv, kv, tv, hv, us, h⟩ := hT.out
        exact ⟨nv, kv, tv, hv, us, h.on hb4⟩
      have hB4 := hBr.out.trans (hb4.mono (by omega))
      clear y0 y1 y2 y3 y4 y5 y6 hb4 hT hBr
      replace hg4 := hide hg4
      replace hT4 := hide hT4
      replace hB4 := hide hB4
      go_upto_region 5 with fail
      have hs4 := lt_of_blk hg4.out
      refine wp_region_X (Below w4.heap.size) (by as_aux_lemma => kernel_rfl) ?_
      intro w5 hbd
      have hg5 := blk_below hbd hs4 hg4.out
      have ze := hbd.size
      have hT5 : TreeAt w5 b b (l.take i) := by
        obtain ⟨nv, kv, tv, hv, us, h⟩ := hT4.out
        exact ⟨nv, kv, tv, hv, us, h.on hbd⟩
      have hB5 := hB4.out.trans (hbd.mono (by omega))
      have lz := fun l : RelW (Below w4.heap.size) w5 => blk_cell (blk_below l.hk hs4 hg5)
      have hq : ∀ w' : World, Below w4.heap.size w5 w' → Calls Tryd.prog 45 #[.agg #[.string (str nm), .int .i64 kd, .int .i64 ab, .int .i64 wt, .bool v6, .int .u64 (hi' : Int), .int .u64 (lo : Int)], .slice (some ⟨bl, off, none⟩) i cap] w' fun e w6 => e = .returned (.int .i64 (R : Int)) ∧ Below w'.heap.size w' w6 := by
        intro w' h
        refine qr.out w' ?_
        have hB6 := hB5.trans (h.mono (by omega))
        have h2 := IsT.take (f := ndC) (size := 7) (fun _ => rfl) (hl.out.below hB6) (show i ≤ k by omega)
        exact ⟨h2.1, h2.2.more (by have := hB6.size; omega)⟩
      clear hg4 hT4 hB4 hbd
      replace hg5 := hide hg5
      replace hT5 := hide hT5
      replace hB5 := hide hB5
      replace hq := hide hq
      have hic : i ≤ cap := by omega
      refine wpX_seg (Below w4.heap.size) 0 4 (fuel := 2) (by as_aux_lemma => kernel_rfl) (fun d _ _ _ _ h => by cases d <;> exact h) (by as_aux_lemma => kernel_rfl) (by as_aux_lemma => kernel_rfl) ?_
      simp only [List.drop_zero, List.take_succ_cons, List.take_zero]
      iterate 4 (refine wpQX_step (fun K hK => ?_); go_simp; refine hK _ ?_; clear hK K)
      refine wpQF_nil ?_
      clear lz
      refine wpF_step 4 rfl (by as_aux_lemma => kernel_rfl) (fun K hK => ?_)
      go_simp
      go_at_call 45
      refine (hq.out w5 (Below.refl _ _)).mono ?_
      rintro e w6 ⟨rfl, hb6⟩
      refine hK _ _ (hb6.mono (by omega)) ?_
      clear hK K
      refine wpF_step 5 rfl (by as_aux_lemma => kernel_rfl) (fun K hK => ?_)
      go_simp
      refine hK _ _ (IsRel.refl _) ?_
      clear hK K
      refine wpF_done (by as_aux_lemma => kernel_rfl) ?_ 0
      have hg6 := blk_below hb6 (by omega) hg5.out
      have ze6 := hb6.size
      have hT6 : TreeAt w6 b b (l.take i) := by
        obtain ⟨nv, kv, tv, hv, us, h⟩ := hT5.out
        exact ⟨nv, kv, tv, hv, us, h.on hb6⟩
      have hB6 := hB5.out.trans (hb6.mono (by omega))
      clear hg5 hT5 hB5 hb6 hq
      replace hg6 := hide hg6
      replace hT6 := hide hT6
      replace hB6 := hide hB6
      by_cases hR : R = 0
      case neg =>
        have hb9 := hbadS.out (by rw [if_pos hR]; exact hR)
        rw [if_pos hR] at hb9
        have hne : ((R : Int) != 0) = true := by rw [bne_iff_ne]; omega
        have hR1 : 0 < R := by omega
        replace hb9 := hide hb9
        go_wp2_with fail
        go_ret3
        exact ⟨hB6.out, .inl ⟨i, R, hb9.out, hR1, rfl⟩⟩
      case pos =>
      have hrz := hRz.out hR
      subst hR
      have hS := hbadS.out
      have hN := hbadN.out
      clear hbadS hbadN
      rw [if_neg (by simp)] at hS hN
      obtain ⟨nv, kv, tv, hv, us, hC⟩ := hT6.out
      have hc0 := blk_cell hC.blk 0
      have hc2 := blk_cell hC.blk 2
      have hc3 := blk_cell hC.blk 3
      have hcn := blk_cell hg6.out 1
      obtain ⟨An, cn, hnv, -, -, -⟩ := own_isv hC.nodes
      obtain ⟨At, ct, htv, -, -, -⟩ := own_isv (hC.rows.own 0 tv _ rfl rfl)
      obtain ⟨Ah, ch, hhv, -, -, -⟩ := own_isv (hC.rows.own 1 hv _ rfl rfl)
      subst hnv htv hhv
      clear hC
      rw [htl.out] at hc0
      obtain ⟨NT, hNT⟩ : ∃ n, (topF (l.take i)).length = n := ⟨_, rfl⟩
      obtain ⟨NH, hNH⟩ : ∃ n, (hostsF (l.take i)).length = n := ⟨_, rfl⟩
      rw [hNT] at hc2 hS hN
      rw [hNH] at hc3 hS hN
      obtain ⟨b1, hb1⟩ : ∃ c, decide (1024 ≤ (i : Int)) = c := ⟨_, rfl⟩
      obtain ⟨b2, hb2⟩ : ∃ c, (kd == 1) = c := ⟨_, rfl⟩
      obtain ⟨b3, hb3⟩ : ∃ c, decide (4 ≤ (NT : Int)) = c := ⟨_, rfl⟩
      obtain ⟨b4, hb4⟩ : ∃ c, (kd == 4) = c := ⟨_, rfl⟩
      obtain ⟨b5, hb5⟩ : ∃ c, decide (512 ≤ (NH : Int)) = c := ⟨_, rfl⟩
      obtain ⟨B, hB⟩ : ∃ c, (b1 || (b2 && b3) || (b4 && b5)) = c := ⟨_, rfl⟩
      have hiff : (1024 ≤ i ∨ kd = 1 ∧ 4 ≤ NT ∨ kd = 4 ∧ 512 ≤ NH) ↔ B = true := by
        rw [← hB, ← hb1, ← hb2, ← hb3, ← hb4, ← hb5]
        simp [or_assoc]
        omega
      replace hS := hide hS
      replace hN := hide hN
      replace hiff := hide hiff
      go_upto_region 8 with fail
      go_cut [58] (fun bv wx => bv = .bool B ∧ w6 = wx)
      case first =>

        cases b1
        · cases b2
          · cases b4 <;> (simp only [Bool.or_true, Bool.or_false, Bool.and_true, Bool.and_false, Bool.false_or, Bool.true_and, Bool.false_and] at hB; subst hB; go_wp2_with fail; go_meet; exact ⟨rfl, rfl⟩)
          · cases b3
            · cases b4 <;> (simp only [Bool.or_true, Bool.or_false, Bool.and_false, Bool.true_or, Bool.false_or, Bool.true_and, Bool.false_and] at hB; subst hB; go_wp2_with fail; go_meet; exact ⟨rfl, rfl⟩)
            · (simp only [Bool.or_true, Bool.or_false, Bool.and_true, Bool.and_false, Bool.true_or, Bool.false_or, Bool.true_and] at hB; subst hB; go_wp2_with fail; go_meet; exact ⟨rfl, rfl⟩)
        · (simp only [Bool.or_true, Bool.or_false, Bool.and_true, Bool.and_false, Bool.true_or, Bool.false_or, Bool.false_and] at hB; subst hB; go_wp2_with fail; go_meet; exact ⟨rfl, rfl⟩)
      case rest =>
      obtain ⟨rfl, rfl⟩ := hcut
      clear hb1 hb2 hb3 hb4 hb5 hB hc0 hc2 hc3
      have hi2 := hiff.out
      clear hiff
      cases B
      case true =>
        have h9 := hS.out (by rw [if_pos (hi2.2 rfl)]; decide)
        rw [if_pos (hi2.2 rfl)] at h9
        clear hS hN
        replace h9 := hide h9
        clear hi2
        go_wp2_with fail
        go_ret3
        exact ⟨hB6.out, .inl ⟨i, 6, h9.out, by decide, rfl⟩⟩
      case false =>
      have hn2 : ¬(1024 ≤ i ∨ kd = 1 ∧ 4 ≤ NT ∨ kd = 4 ∧ 512 ≤ NH) := fun h => absurd (hi2.1 h) (by decide)
      have h9 := hN.out (if_neg hn2)
      have hi3 : i < 1024 := Nat.lt_of_not_le fun h => hn2 (.inl h)
      have qp2 := qp.out w6 hT6.out hi3 hrz.2.2 ⟨hrz.1, hrz.2.1⟩
      clear hS hN hi2 hn2
      clear hcn
      have d0 := blk_cell hg6.out 0
      have d1 := blk_cell hg6.out 1
      have d2 := blk_cell hg6.out 2
      have d3 := blk_cell hg6.out 3
      have d4 := blk_cell hg6.out 4
      have d5 := blk_cell hg6.out 5
      have d6 := blk_cell hg6.out 6
      replace h9 := hide h9
      replace qp2 := hide qp2
      go_wp2_with fail
      refine (qp2.out).mono ?_
      rintro e w7 ⟨rfl, hT7, hB7⟩
      clear d0 d1 d2 d3 d4 d5 d6
      replace hT7 := hide hT7
      replace hB7 := hide hB7
      go_wp2_with fail
      refine ⟨⟨i + 1, by omega, rfl, h9.out, by rw [← htk.out]; exact hT7.out, hB6.out.trans hB7.out⟩, ?_⟩
      show k - ((i : Int) + 1).toNat < k - ((i : Int)).toNat
      omega
    · obtain rfl : i = k := by omega
      have hF : treeF l = none := by unfold treeF; rw [hlen]; exact hE
      have hT9 : TreeAt wr b b l := by rw [show l.take i = l by rw [← hlen]; exact List.take_length] at hT; exact hT
      have hlt : ¬((i : Int) < (i : Int)) := by omega
      clear hE hT
      replace hF := hide hF
      replace hT9 := hide hT9
      replace hBr := hide hBr
      go_wp2_with fail
      go_ret3
      exact ⟨hBr.out, .inr ⟨hF.out, b, rfl, hT9.out⟩⟩
end Tree16
end Go.Proofs.YtcpokkkdmenmgaaDoor
