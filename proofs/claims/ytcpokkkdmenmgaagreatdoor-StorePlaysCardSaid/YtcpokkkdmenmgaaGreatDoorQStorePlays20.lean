/- valid: New: a configuration that may be. Conditions: at most 4096 of each list, names of at most 2^40 bytes, numbers of 64 bits. -/
import Derived.Test.YtcpokkkdmenmgaaGreatDoorQStorePlays16
import Derived.Test.YtcpokkkdmenmgaaGreatDoorQStorePlays17
import Derived.Test.YtcpokkkdmenmgaaGreatDoorQStorePlays18
import Derived.Test.YtcpokkkdmenmgaaGreatDoorQStorePlays19
namespace Go.Proofs.YtcpokkkdmenmgaaGreatDoor
open Go.RowKit Go.ChangeShapes Go.WideShapes Go.ChangeAt Go.Deep
namespace Val19
open Conf18 (Nd Vp Vw Cfg zA ndC vpC vwC cfC CfgR CfgV lt_of_blk isRel_below alloc_vp vp_one)
open Addr05 (Adr)
open Tree16 (rightA treeF topF TreeAt TreeC Rows tnew_any TNewEnd levels_any)
theorem rowE_some {α : Type} {f : α → List α → Nat} {l : List α} {i : Nat} {n : α} (h : rowE f l i = 0) (hn : l[i]? = some n) (hb : f n (l.take i) ≠ 0) : rowE f l l.length = f n (l.take i) := by
  have h1 : rowE f l (i + 1) = f n (l.take i) := by
    rw [rowE, h, hn]
    exact if_neg (by decide)
  have h2 : ∀ k, rowE f l (i + 1 + k) = f n (l.take i) := by
    intro k
    induction k with
    | zero => exact h1
    | succ k ih =>
      rw [← Nat.add_assoc, rowE, ih]
      exact if_pos hb
  have hl := (List.getElem?_eq_some_iff.1 hn).1
  have := h2 (l.length - (i + 1))
  rw [show i + 1 + (l.length - (i + 1)) = l.length by omega] at this
  exact this
theorem rowE_next {α : Type} {f : α → List α → Nat} {l : List α} {i : Nat} {n : α} (h : rowE f l i = 0) (hn : l[i]? = some n) (hb : f n (l.take i) = 0) : rowE f l (i + 1) = 0 := by
  rw [rowE, h, hn]
  exact (if_neg (by decide)).trans hb
set_option maxRecDepth 20000 in
set_option maxHeartbeats 16000000 in
theorem vnew_any (c : Cfg) (hs : c.small 4096) (hnm : ∀ x ∈ c.nodes, x.name.length ≤ 1099511627776) (hok : ∀ v ∈ c.views, v.a.ok) (w : World) (A1 A2 A3 : Option Addr) (k1 k2 k3 : Nat) (h1 : c.nodes.length ≤ k1 ∧ k1 ≤ maxLen) (h2 : c.vips.length ≤ k2 ∧ k2 ≤ maxLen) (h3 : c.views.length ≤ k3 ∧ k3 ≤ maxLen) (h : CfgR w w.heap.size c A1 A2 A3 k1 k2 k3) :
    Calls Tryz.prog 26 #[.agg (cfC c (.slice A1 c.nodes.length k1) (.slice A2 c.vips.length k2) (.slice A3 c.views.length k3))] w fun e w' => VNewEnd c w w' e := by
  have hs1 := hs.1
  have hs2 := hs.2.1
  have hs3 := hs.2.2
  have qP := fun w => plain_any c w A1 A2 A3 k1 k2 k3
  have qS := fun w h => self_any c w A1 A2 A3 k1 k2 k3 h (by omega)
  have qT := fun w h => tnew_any c.nodes c.nodes.length k1 A1 w h h1.1 h1.2 (by omega) hnm
  have qC := fun w h => copyOf_any c hs w A1 A2 A3 k1 k2 k3 h
  unfold VNewEnd
  obtain ⟨X, hX⟩ : ∃ X, validF c = X := ⟨_, rfl⟩
  rw [hX]
  unfold validF at hX
  obtain ⟨p1, p2, p3⟩ := h
  unfold cfC at qP qS qC ⊢
  obtain ⟨w1, hw1⟩ : ∃ w1, w.alloc (.cells #[.slice A1 c.nodes.length k1, .slice A2 c.vips.length k2, .slice A3 c.views.length k3, .int .i64 c.factor, .int .i64 c.domain, .bool c.s0.v6, .int .u64 (c.s0.hi : Int), .int .u64 (c.s0.lo : Int), .bool c.s1.v6, .int .u64 (c.s1.hi : Int), .int .u64 (c.s1.lo : Int)] 34) = w1 := ⟨_, rfl⟩
  have hb1 : Below w.heap.size w w1 := hw1 ▸ (Below.refl _ _).alloc (Nat.le_refl _) _
  have hg1 : w1.heap[w.heap.size]? = some (.cells #[.slice A1 c.nodes.length k1, .slice A2 c.vips.length k2, .slice A3 c.views.length k3, .int .i64 c.factor, .int .i64 c.domain, .bool c.s0.v6, .int .u64 (c.s0.hi : Int), .int .u64 (c.s0.lo : Int), .bool c.s1.v6, .int .u64 (c.s1.hi : Int), .int .u64 (c.s1.lo : Int)] 34 (0, 0)) := hw1 ▸ blk_new _ _ _
  have hz1 := lt_of_blk hg1
  obtain ⟨PF, hPF⟩ : ∃ x, plainF c = x := ⟨_, rfl⟩
  rw [hPF] at hX qP
  have hgc := blk_cell hg1
  replace hb1 := hide hb1
  replace hg1 := hide hg1
  replace qP := hide qP
  replace qS := hide qS
  replace qT := hide qT
  replace qC := hide qC
  replace p1 := hide p1
  replace p2 := hide p2
  replace p3 := hide p3
  replace hX := hide hX
  replace hnm := hide hnm
  replace hok := hide hok
  go_enter Tryz.func26, Tryz.ntmps26
  go_upto_region 1 with fail
  clear hw1
  go_wp2_with fail
  refine (qP.out w1).mono ?_
  rintro e w2 ⟨rfl, hb2⟩
  have hB2 := hb1.out.trans (hb2.mono hb1.out.size)
  have hg2 := blk_below hb2 hz1 hg1.out
  have hz2 := lt_of_blk hg2
  have hX1 := hX.out
  clear hX hb1 hb2 hg1 hgc qP hz1
  by_cases hP : PF = 0
  case neg =>
    rw [if_pos hP] at hX1
    subst hX1
    have hne : ((PF : Int) != 0) = true := by rw [bne_iff_ne]; omega
    replace hB2 := hide hB2
    go_wp2_with fail
    go_ret2
    exact ⟨hB2.out, .inl ⟨hP, rfl⟩⟩
  case pos =>
  rw [if_neg (fun e => e hP)] at hX1
  subst hP
  have q := qT.out w2 (istW (p1.out.below hB2) hB2.size)
  unfold TNewEnd at q
  have hgc := blk_cell hg2 0
  replace hX1 := hide hX1
  replace hB2 := hide hB2
  replace hg2 := hide hg2
  replace q := hide q
  clear qT
  go_wp2_with fail
  refine (q.out).mono ?_
  rintro e w3 ⟨hb3, hend⟩
  have hB3 := hB2.out.trans (hb3.mono hB2.out.size)
  have hzw : w.heap.size ≤ w2.heap.size := hB2.out.size
  have hg3 := blk_below hb3 hz2 hg2.out
  have hz3 := lt_of_blk hg3
  have hX2 := hX1.out
  clear hX1 hb3 hB2 hg2 hgc q hz2
  replace hB3 := hide hB3
  replace hg3 := hide hg3
  rcases hend with ⟨p, ht, hp, rfl⟩ | ⟨ht, t, rfl, hT⟩
  · rw [ht] at hX2
    dsimp only at hX2
    subst hX2
    have hne : ((p.2 : Int) != 0) = true := by rw [bne_iff_ne]; omega
    go_wp2_with fail
    go_ret2
    exact ⟨hB3.out, .inl ⟨by omega, rfl⟩⟩
  rw [ht] at hX2
  dsimp only at hX2
  obtain ⟨SB, hSB⟩ : ∃ x, selfB c = x := ⟨_, rfl⟩
  rw [hSB] at hX2 qS
  have q := qS.out w3 ⟨istW (p1.out.below hB3.out) hB3.out.size, istW (p2.out.below hB3.out) hB3.out.size, istW (p3.out.below hB3.out) hB3.out.size⟩
  have hgc := blk_cell hg3.out
  clear qS
  replace hX2 := hide hX2
  replace q := hide q
  replace hT := hide hT
  replace ht := hide ht
  go_wp2_with fail
  refine (q.out).mono ?_
  rintro e w4 ⟨rfl, hb4⟩
  have hB4 := hB3.out.trans (hb4.mono hB3.out.size)
  have hg4 := blk_below hb4 hz3 hg3.out
  have hz4 := lt_of_blk hg4
  have hT4 : TreeAt w4 w.heap.size t c.nodes := by
    obtain ⟨nv, kv, tv, hv, us, hC⟩ := hT.out
    exact TreeAt.weak ⟨nv, kv, tv, hv, us, hC.on hb4⟩ hzw
  have hX3 := hX2.out
  clear hX2 hb4 hB3 hg3 hgc q hz3 hT
  replace hB4 := hide hB4
  replace hg4 := hide hg4
  replace hT4 := hide hT4
  cases SB
  case false =>
    obtain rfl : 7 = X := hX3
    go_wp2_with fail
    go_ret2
    exact ⟨hB4.out, .inl ⟨by decide, rfl⟩⟩
  case true =>
  rw [if_neg (by decide)] at hX3
  have hgc := blk_cell hg4.out 1
  replace hX3 := hide hX3
  obtain ⟨m, hm⟩ : ∃ m, c.vips.length = m := ⟨_, rfl⟩
  rw [hm] at hgc hs2 h2
  have hp2 := p2.out
  rw [hm] at hp2
  clear p2
  replace hp2 := hide hp2
  go_wp2_with fail
  clear hgc
  go_loopw [8, 9, 10, 35] (fun _ _ _ iv wr => ∃ i : Nat, i ≤ m ∧ iv = .int .i64 (i : Int) ∧ rowE vipF c.vips i = 0 ∧ Below w4.heap.size w4 wr) (fun _ _ _ iv _ => m - (intOf iv).toNat)
  case atStart => exact ⟨0, by omega, rfl, rfl, Below.refl _ _⟩
  case round =>
    obtain ⟨i, hi, rfl, hE, hBr⟩ := hrel
    have hzr := hBr.size
    by_cases hin : i < m
    · have hlt : (i : Int) < (m : Int) := by omega
      have hB5 := hB4.out.trans (hBr.mono hB4.out.size)
      obtain ⟨b, off, n, rfl, hbk, hni, hcell⟩ := IsT.at (f := vpC) (size := 7) (fun _ => rfl) (by decide) (hp2.out.below hB5) hin
      have wi1 : IntKind.i64.wrap ((i : Int) + 1) = ((i + 1 : Nat) : Int) := by rw [wraps62 _ (by omega) (by omega)]; omega
      have hgr := blk_below hBr hz4 hg4.out
      obtain ⟨R, hR⟩ : ∃ x, vipF n (c.vips.take i) = x := ⟨_, rfl⟩
      have hS := fun hb : R ≠ 0 => (rowE_some hE hni (by rw [hR]; exact hb)).trans hR
      have hN := fun hb : R = 0 => rowE_next hE hni (hR.trans hb)
      have hv : ∀ w', Below w.heap.size w w' → Calls Tryz.prog 37 #[.agg (vpA n), .slice (some ⟨b, off, none⟩) i k2] w' fun e w6 => e = .returned (.int .i64 (R : Int)) ∧ Below w'.heap.size w' w6 := by
        intro w' hb
        have h2 := IsT.take (f := vpC) (size := 7) (fun _ => rfl) (hp2.out.below hb) (show i ≤ m by omega)
        have := vip_any n (c.vips.take i) i k2 (some ⟨b, off, none⟩) w' (istW h2 hb.size) (by omega)
        rw [hR] at this
        exact this
      clear hE hni hR
      obtain ⟨⟨v6, vh, vl⟩, xp, xo, xc, xn⟩ := n
      have y0 : wr.cell? ⟨b, off + i * 7, none⟩ = some (.bool v6) := hcell 0 _ rfl
      have y1 : wr.cell? ⟨b, off + i * 7 + 1, none⟩ = some (.int .u64 (vh : Int)) := hcell 1 _ rfl
      have y2 : wr.cell? ⟨b, off + i * 7 + 2, none⟩ = some (.int .u64 (vl : Int)) := hcell 2 _ rfl
      have y3 : wr.cell? ⟨b, off + i * 7 + 3, none⟩ = some (.int .i64 xp) := hcell 3 _ rfl
      have y4 : wr.cell? ⟨b, off + i * 7 + 4, none⟩ = some (.int .i64 xo) := hcell 4 _ rfl
      have y5 : wr.cell? ⟨b, off + i * 7 + 5, none⟩ = some (.int .i64 xc) := hcell 5 _ rfl
      have y6 : wr.cell? ⟨b, off + i * 7 + 6, none⟩ = some (.bool xn) := hcell 6 _ rfl
      unfold vpA at hv
      dsimp only at hv
      clear hcell
      replace hS := hide hS
      replace hN := hide hN
      replace hv := hide hv
      replace hBr := hide hBr
      replace hB5 := hide hB5
      replace hgr := hide hgr
      go_upto_region 11 with fail
      apply wp_region_lit
      iterate 3 (refine wpList_plain rfl fun K hK => ?_; go_simp; refine hK _ _ ?_; clear hK K)
      refine wpl_newm rfl rfl rfl 70 _ (alloc_vp _ rfl) 9 8 rfl rfl (.int .i64 (i : Int)) (fun _ => rfl) (.tmp 39) rfl _ (fun _ => rfl) (fun _ => rfl) rfl (by kernel_rfl) (vp_one v6 (vh : Int) (vl : Int) xp xo xc xn) ?_
      intro w6 hg6 hb6 hz6
      refine wpList_nil ?_
      go_simp
      have hB6 := hB5.out.trans (hb6.mono hB5.out.size)
      have hgc6 := blk_below hb6 (by have := lt_of_blk hgr.out; omega) hgr.out
      have hs6 := lt_of_blk hg6
      have hr6 := hBr.out.trans (hb6.mono hzr)
      clear y0 y1 y2 y3 y4 y5 y6 hB5 hgr hb6 hBr
      replace hg6 := hide hg6
      replace hB6 := hide hB6
      replace hgc6 := hide hgc6
      replace hr6 := hide hr6
      go_upto_region 12 with fail
      refine wp_region_X (Below w6.heap.size) (by as_aux_lemma => kernel_rfl) ?_
      intro w7 hbd
      have ze := hbd.size
      have zz := lt_of_blk hgc6.out
      have lz := fun l : RelW (Below w6.heap.size) w7 => blk_cell (blk_below (hbd.trans l.hk) hs6 hg6.out)
      have lc := fun l : RelW (Below w6.heap.size) w7 => blk_cell (blk_below (hbd.trans l.hk) zz hgc6.out) 1
      have hic : i ≤ k2 := by omega
      have hB7 := hB6.out.trans (hbd.mono hB6.out.size)
      have hr7 := hr6.out.trans (hbd.mono hr6.out.size)
      replace hB7 := hide hB7
      replace hr7 := hide hr7
      replace hbd := hide hbd
      refine wpX_seg (Below w6.heap.size) 0 5 (fuel := 2) (by as_aux_lemma => kernel_rfl) (fun d _ _ _ _ h => by cases d <;> exact h) (by as_aux_lemma => kernel_rfl) (by as_aux_lemma => kernel_rfl) ?_
      simp only [List.drop_zero, List.take_succ_cons, List.take_zero]
      iterate 5 (refine wpQX_step (fun K hK => ?_); go_simp; refine hK _ ?_; clear hK K)
      refine wpQF_nil ?_
      clear lz lc
      refine wpF_step 5 rfl (by as_aux_lemma => kernel_rfl) (fun K hK => ?_)
      go_simp
      go_at_call 37
      refine (hv.out w7 hB7.out).mono ?_
      rintro e w8 ⟨rfl, hb8⟩
      refine hK _ _ (hb8.mono ze) ?_
      clear hK K
      refine wpF_step 6 rfl (by as_aux_lemma => kernel_rfl) (fun K hK => ?_)
      go_simp
      refine hK _ _ (IsRel.refl _) ?_
      clear hK K
      refine wpF_done (by as_aux_lemma => kernel_rfl) ?_ 0
      have hB8 := hB7.out.trans (hb8.mono hB7.out.size)
      have hr8 := hr7.out.trans (hb8.mono hr7.out.size)
      clear hB7 hr7 hb8 hv hbd hg6 hB6 hgc6 hr6
      replace hB8 := hide hB8
      replace hr8 := hide hr8
      by_cases hR : R = 0
      case neg =>
        have hb9 := hS.out hR
        have hne : ((R : Int) != 0) = true := by rw [bne_iff_ne]; omega
        have hX4 := hX3.out
        rw [hb9, if_pos hR] at hX4
        subst hX4
        clear hS hN
        go_wp2_with fail
        go_ret2
        exact ⟨hB8.out, .inl ⟨hR, rfl⟩⟩
      case pos =>
        have hn2 := hN.out hR
        subst hR
        clear hS hN
        replace hn2 := hide hn2
        go_wp2_with fail
        exact ⟨⟨i + 1, by omega, rfl, hn2.out, hr8.out⟩, by show m - ((i : Int) + 1).toNat < m - ((i : Int)).toNat; omega⟩
    · obtain rfl : i = m := by omega
      have hX4 := hX3.out
      rw [show rowE vipF c.vips c.vips.length = 0 by rw [hm]; exact hE, if_neg (by decide)] at hX4
      have hlt : ((i : Int) < (i : Int)) = False := by simp
      have hB5 := hB4.out.trans (hBr.mono hB4.out.size)
      have hg5 := blk_below hBr hz4 hg4.out
      have hz5 := lt_of_blk hg5
      have hT5 : TreeAt wr w.heap.size t c.nodes := by
        obtain ⟨nv, kv, tv, hv, us, hC⟩ := hT4.out
        exact ⟨nv, kv, tv, hv, us, hC.on hBr⟩
      have hgc := blk_cell hg5 2
      obtain ⟨m3, hm3⟩ : ∃ m, c.views.length = m := ⟨_, rfl⟩
      have hp3 := p3.out
      rw [hm3] at hgc hs3 h3 hp3
      replace hm3 := hide hm3
      clear hE hB4 hg4 hT4 hBr hz4 hX3 p3
      replace hX4 := hide hX4
      replace hB5 := hide hB5
      replace hg5 := hide hg5
      replace hT5 := hide hT5
      replace hp3 := hide hp3
      go_wp2_with fail
      clear hgc
      go_loopw [11, 12, 13, 53] (fun _ _ _ iv wq => ∃ j : Nat, j ≤ m3 ∧ iv = .int .i64 (j : Int) ∧ rowE (fun v l => viewG v l (topF c.nodes).length) c.views j = 0 ∧ Below wr.heap.size wr wq) (fun _ _ _ iv _ => m3 - (intOf iv).toNat)
      case atStart => exact ⟨0, by omega, rfl, rfl, Below.refl _ _⟩
      case round =>
        clear hlt
        obtain ⟨j, hj, rfl, hE, hBr⟩ := hrel
        have hzr := hBr.size
        by_cases hjn : j < m3
        · have hlt : (j : Int) < (m3 : Int) := by omega
          have hB6 := hB5.out.trans (hBr.mono hB5.out.size)
          obtain ⟨b, off, n, rfl, hbk, hni, hcell⟩ := IsT.at (f := vwC) (size := 5) (fun _ => rfl) (by decide) (hp3.out.below hB6) hjn
          have wi1 : IntKind.i64.wrap ((j : Int) + 1) = ((j + 1 : Nat) : Int) := by rw [wraps62 _ (by omega) (by omega)]; omega
          have hgr := blk_below hBr hz5 hg5.out
          obtain ⟨R, hR⟩ : ∃ x, viewG n (c.views.take j) (topF c.nodes).length = x := ⟨_, rfl⟩
          have hS := fun hb : R ≠ 0 => (rowE_some hE hni (by rw [hR]; exact hb)).trans hR
          have hN := fun hb : R = 0 => rowE_next hE hni (hR.trans hb)
          have hnok := hok.out n (List.mem_of_getElem? hni)
          have hv : ∀ w', Below w.heap.size w w' → Calls Tryz.prog 38 #[.agg (vwA n), .slice (some ⟨b, off, none⟩) j k3, .int .i64 ((topF c.nodes).length : Int)] w' fun e w6 => e = .returned (.int .i64 (R : Int)) ∧ Below w'.heap.size w' w6 := by
            intro w' hb
            have h2 := IsT.take (f := vwC) (size := 5) (fun _ => rfl) (hp3.out.below hb) (show j ≤ m3 by omega)
            have := view_any n hnok (c.views.take j) j k3 (topF c.nodes).length (some ⟨b, off, none⟩) w' (istW h2 hb.size) (by omega)
            rw [hR] at this
            exact this
          have hT6 : TreeAt wr w.heap.size t c.nodes := by
            obtain ⟨nv, kv, tv, hv, us, hC⟩ := hT5.out
            exact ⟨nv, kv, tv, hv, us, hC.on hBr⟩
          clear hE hni hR hnok
          obtain ⟨⟨v6, vh, vl⟩, xb, xv⟩ := n
          have y0 : wr.cell? ⟨b, off + j * 5, none⟩ = some (.bool v6) := hcell 0 _ rfl
          have y1 : wr.cell? ⟨b, off + j * 5 + 1, none⟩ = some (.int .u64 (vh : Int)) := hcell 1 _ rfl
          have y2 : wr.cell? ⟨b, off + j * 5 + 2, none⟩ = some (.int .u64 (vl : Int)) := hcell 2 _ rfl
          have y3 : wr.cell? ⟨b, off + j * 5 + 3, none⟩ = some (.int .i64 xb) := hcell 3 _ rfl
          have y4 : wr.cell? ⟨b, off + j * 5 + 4, none⟩ = some (.int .i64 xv) := hcell 4 _ rfl
          unfold vwA at hv
          dsimp only at hv
          clear hcell
          replace hS := hide hS
          replace hN := hide hN
          replace hv := hide hv
          replace hBr := hide hBr
          replace hB6 := hide hB6
          replace hgr := hide hgr
          replace hT6 := hide hT6
          go_upto_region 18 with fail
          apply wp_region_lit
          iterate 3 (refine wpList_plain rfl fun K hK => ?_; go_simp; refine hK _ _ ?_; clear hK K)
          refine wpl_newm rfl rfl rfl 74 _ (alloc_vw _ rfl) 12 11 rfl rfl (.int .i64 (j : Int)) (fun _ => rfl) (.tmp 57) rfl _ (fun _ => rfl) (fun _ => rfl) rfl (by kernel_rfl) (vw_one v6 (vh : Int) (vl : Int) xb xv) ?_
          intro w6 hg6 hb6 hz6
          refine wpList_nil ?_
          go_simp
          have hB7 := hB6.out.trans (hb6.mono hB6.out.size)
          have hgc6 := blk_below hb6 (by have := lt_of_blk hgr.out; omega) hgr.out
          have hs6 := lt_of_blk hg6
          have hr6 := hBr.out.trans (hb6.mono hzr)
          have hT7 : TreeAt w6 w.heap.size t c.nodes := by
            obtain ⟨nv, kv, tv, hv, us, hC⟩ := hT6.out
            exact ⟨nv, kv, tv, hv, us, hC.on hb6⟩
          clear y0 y1 y2 y3 y4 hB6 hgr hb6 hBr hT6
          replace hg6 := hide hg6
          replace hB7 := hide hB7
          replace hgc6 := hide hgc6
          replace hr6 := hide hr6
          replace hT7 := hide hT7
          go_upto_region 19 with fail
          refine wp_region_X (Below w6.heap.size) (by as_aux_lemma => kernel_rfl) ?_
          intro w7 hbd
          have ze := hbd.size
          have zz := lt_of_blk hgc6.out
          have lz := fun l : RelW (Below w6.heap.size) w7 => blk_cell (blk_below (hbd.trans l.hk) hs6 hg6.out)
          have lc := fun l : RelW (Below w6.heap.size) w7 => blk_cell (blk_below (hbd.trans l.hk) zz hgc6.out) 2
          have hic : j ≤ k3 := by omega
          have hB8 := hB7.out.trans (hbd.mono hB7.out.size)
          have hr7 := hr6.out.trans (hbd.mono hr6.out.size)
          have hT8 : TreeAt w7 w.heap.size t c.nodes := by
            obtain ⟨nv, kv, tv, hv, us, hC⟩ := hT7.out
            exact ⟨nv, kv, tv, hv, us, hC.on hbd⟩
          have qL := levels_any c.nodes w.heap.size t w7 hT8
          clear hT8
          replace hB8 := hide hB8
          replace hr7 := hide hr7
          replace hbd := hide hbd
          replace qL := hide qL
          refine wpX_seg (Below w6.heap.size) 0 6 (fuel := 4) (by as_aux_lemma => kernel_rfl) (fun d _ _ _ _ h => by cases d <;> exact h) (by as_aux_lemma => kernel_rfl) (by as_aux_lemma => kernel_rfl) ?_
          simp only [List.drop_zero, List.take_succ_cons, List.take_zero]
          iterate 6 (refine wpQX_step (fun K hK => ?_); go_simp; refine hK _ ?_; clear hK K)
          refine wpQF_nil ?_
          clear lz lc
          refine wpF_step 6 rfl (by as_aux_lemma => kernel_rfl) (fun K hK => ?_)
          go_simp
          go_at_call 39
          refine qL.out.mono ?_
          rintro e w8 ⟨v, rfl, ho, hb8⟩
          obtain ⟨Al, cl, hvl, -, -, -⟩ := own_isv ho
          subst hvl
          refine hK _ _ (hb8.mono ze) ?_
          clear hK K ho qL
          have ze8 := hb8.size
          have hB9 := hB8.out.trans (hb8.mono hB8.out.size)
          have hr9 := hr7.out.trans (hb8.mono hr7.out.size)
          clear hB8 hr7 hb8
          replace hB9 := hide hB9
          replace hr9 := hide hr9
          refine wpF_step 7 rfl (by as_aux_lemma => kernel_rfl) (fun K hK => ?_)
          go_simp
          refine hK _ _ (IsRel.refl _) ?_
          clear hK K
          refine wpF_step 8 rfl (by as_aux_lemma => kernel_rfl) (fun K hK => ?_)
          go_simp
          go_at_call 38
          refine (hv.out w8 hB9.out).mono ?_
          rintro e w9 ⟨rfl, hb9⟩
          refine hK _ _ (hb9.mono (by omega)) ?_
          clear hK K
          refine wpF_step 9 rfl (by as_aux_lemma => kernel_rfl) (fun K hK => ?_)
          go_simp
          refine hK _ _ (IsRel.refl _) ?_
          clear hK K
          refine wpF_done (by as_aux_lemma => kernel_rfl) ?_ 0
          have hBx := hB9.out.trans (hb9.mono hB9.out.size)
          have hrx := hr9.out.trans (hb9.mono hr9.out.size)
          clear hB9 hr9 hb9 hv hbd hg6 hB7 hgc6 hr6 hT7
          replace hBx := hide hBx
          replace hrx := hide hrx
          by_cases hR : R = 0
          case neg =>
            have hb9 := hS.out hR
            have hne : ((R : Int) != 0) = true := by rw [bne_iff_ne]; omega
            have hX5 := hX4.out
            rw [hb9] at hX5
            subst hX5
            clear hS hN
            go_wp2_with fail
            go_ret2
            exact ⟨hBx.out, .inl ⟨hR, rfl⟩⟩
          case pos =>
            have hn2 := hN.out hR
            subst hR
            clear hS hN
            replace hn2 := hide hn2
            go_wp2_with fail
            exact ⟨⟨j + 1, by omega, rfl, hn2.out, hrx.out⟩, by show m3 - ((j : Int) + 1).toNat < m3 - ((j : Int)).toNat; omega⟩
        · obtain rfl : j = m3 := by omega
          have hX5 := hX4.out
          rw [show rowE (fun v l => viewG v l (topF c.nodes).length) c.views c.views.length = 0 by rw [hm3.out]; exact hE] at hX5
          subst hX5
          have hlt : ((j : Int) < (j : Int)) = False := by simp
          have hB6 := hB5.out.trans (hBr.mono hB5.out.size)
          have hg6 := blk_below hBr hz5 hg5.out
          have hT6 : TreeAt wr w.heap.size t c.nodes := by
            obtain ⟨nv, kv, tv, hv, us, hC⟩ := hT5.out
            exact ⟨nv, kv, tv, hv, us, hC.on hBr⟩
          have q := qC.out wr ⟨istW (p1.out.below hB6) hB6.size, by rw [hm]; exact istW (hp2.out.below hB6) hB6.size, by rw [hm3.out]; exact istW (hp3.out.below hB6) hB6.size⟩
          clear hE hBr hB5 hg5 hT5 qC hX4 hnm hok hm hlt
          replace hB6 := hide hB6
          replace hg6 := hide hg6
          replace hT6 := hide hT6
          replace q := hide q
          go_upto_region 23 with fail
          apply wp_region_lit
          refine wpl_ld rfl 34 (.tmp 1) rfl w.heap.size rfl (#[.slice A1 c.nodes.length k1, .slice A2 c.vips.length k2, .slice A3 c.views.length k3, .int .i64 c.factor, .int .i64 c.domain, .bool c.s0.v6, .int .u64 (c.s0.hi : Int), .int .u64 (c.s0.lo : Int), .bool c.s1.v6, .int .u64 (c.s1.hi : Int), .int .u64 (c.s1.lo : Int)]) _ hg6.out Tryz.underlying34 rfl (by kernel_rfl) ?_
          refine wpList_plain rfl fun K hK => ?_
          go_simp
          refine (q.out).mono ?_
          rintro e w6 ⟨v, rfl, hv, hb6⟩
          clear q
          obtain ⟨B1, B2, B3, j1, j2, j3, hvv, -⟩ := hv.open
          subst hvv
          have hT7 : TreeAt w6 w.heap.size t c.nodes := by
            obtain ⟨nv, kv, tv, hv, us, hC⟩ := hT6.out
            exact ⟨nv, kv, tv, hv, us, hC.on hb6⟩
          have hB7 := hB6.out.trans (hb6.mono hB6.out.size)
          have hz6 := hB7.size
          have hzr6 := hB6.out.size
          obtain ⟨w7, hw7⟩ : ∃ w7, w6.alloc (.cells #[.slice B1 c.nodes.length j1, .slice B2 c.vips.length j2, .slice B3 c.views.length j3, .int .i64 c.factor, .int .i64 c.domain, .bool c.s0.v6, .int .u64 (c.s0.hi : Int), .int .u64 (c.s0.lo : Int), .bool c.s1.v6, .int .u64 (c.s1.hi : Int), .int .u64 (c.s1.lo : Int), .pointer (some ⟨t, 0, none⟩)] 49) = w7 := ⟨_, rfl⟩
          have hb7 : Below w6.heap.size w6 w7 := hw7 ▸ (Below.refl _ _).alloc (Nat.le_refl _) _
          have hg7 : w7.heap[w6.heap.size]? = some (.cells #[.slice B1 c.nodes.length j1, .slice B2 c.vips.length j2, .slice B3 c.views.length j3, .int .i64 c.factor, .int .i64 c.domain, .bool c.s0.v6, .int .u64 (c.s0.hi : Int), .int .u64 (c.s0.lo : Int), .bool c.s1.v6, .int .u64 (c.s1.hi : Int), .int .u64 (c.s1.lo : Int), .pointer (some ⟨t, 0, none⟩)] 49 (0, 0)) := hw7 ▸ blk_new _ _ _
          have hv7 := hv.on hb7
          have hT8 : TreeAt w7 w.heap.size t c.nodes := by
            obtain ⟨nv, kv, tv, hv, us, hC⟩ := hT7
            exact ⟨nv, kv, tv, hv, us, hC.on hb7⟩
          have hB8 := hB7.trans (hb7.mono hz6)
          have hVA : VAt w7 w.heap.size w6.heap.size c := ⟨⟨B1, B2, B3, j1, j2, j3, t, hg7, hz6, ⟨row_weaken hv7.nodes hzr6, row_weaken hv7.vips hzr6, row_weaken hv7.views hzr6, hv7.arr⟩, hT8⟩⟩
          clear hv hT7 hB7 hb7 hg7 hv7 hT8 hb6 hT6 hg6 hB6
          replace hVA := hide hVA
          replace hB8 := hide hB8
          unfold cfC
          go_simp
          refine hK _ _ ?_
          clear hK K
          iterate 5 (refine wpList_plain rfl fun K hK => ?_; go_simp; refine hK _ _ ?_; clear hK K)
          refine wpList_nil ?_
          go_simp
          clear hw7
          go_wp2_with fail
          go_ret2
          exact ⟨hB8.out, w6.heap.size, rfl, hVA.out⟩
end Val19
end Go.Proofs.YtcpokkkdmenmgaaGreatDoor
/- store: none, Gen, Now, Set, Load. Condition: texts of at most 65536 bytes, fewer than 2^40 changes. -/
namespace Go.Proofs.YtcpokkkdmenmgaaGreatDoor
open Go.RowKit Go.ChangeShapes Go.WideShapes Go.ChangeAt Go.Deep
namespace Store20
open Conf18 (Nd Vp Vw Cfg zA MapI lt_of_blk cfC CfgR CfgV confF ParseEnd confParse_any alloc_cf cf_one confF_good)
open Addr05 (Adr MaxAt)
open Val19
theorem none_is (s : Nat) (c0 c1 c2 : Value) (b : Bool) (w : World) (h : w.heap[s]? = some (.cells #[c0, c1, c2, .bool b] 56 (0, 0))) :
    Calls Tryz.prog 13 #[.pointer (some ⟨s, 0, none⟩)] w fun e w' => e = .returned (.bool (!b)) ∧ w' = w := by
  have k3 := blk_cell h 3
  clear h
  go_enter Tryz.func13, Tryz.ntmps13
  go_wp2_with fail
  go_ret
  exact ⟨rfl, rfl⟩
theorem none_nil (w : World) : Calls Tryz.prog 13 #[.pointer none] w fun e w' => e = .returned (.bool true) ∧ w' = w := by
  go_enter Tryz.func13, Tryz.ntmps13
  go_wp2_with fail
  go_ret
  exact ⟨rfl, rfl⟩
section
variable {w : World} {s mp lo hi n : Nat} {nv : Value} {S : St}
theorem none_any (h : StC w s mp lo hi n nv S) : Calls Tryz.prog 13 #[.pointer (some ⟨s, 0, none⟩)] w fun e w' => e = .returned (.bool false) ∧ w' = w := none_is s _ _ _ true w h.blk
theorem gen_any (h : StC w s mp lo hi n nv S) : Calls Tryz.prog 8 #[.pointer (some ⟨s, 0, none⟩)] w fun e w' => e = .returned (.int .i64 (S.gen : Int)) ∧ w' = w := by
  have q := none_any h
  have k1 := blk_cell h.blk 1
  clear h
  replace q := hide q
  go_enter Tryz.func8, Tryz.ntmps8
  go_wp2_with fail
  refine (q.out).mono ?_
  rintro e w ⟨rfl, rfl⟩
  clear q
  go_wp2_with fail
  go_ret
  exact ⟨rfl, rfl⟩
theorem now_any (h : StC w s mp lo hi n nv S) : Calls Tryz.prog 7 #[.pointer (some ⟨s, 0, none⟩)] w fun e w' => e = .returned nv ∧ w' = w := by
  have q := none_any h
  have k1 := blk_cell h.blk 0
  obtain ⟨p, rfl⟩ := h.now.ptr
  clear h
  replace q := hide q
  go_enter Tryz.func7, Tryz.ntmps7
  go_wp2_with fail
  refine (q.out).mono ?_
  rintro e w ⟨rfl, rfl⟩
  clear q
  go_wp2_with fail
  go_ret
  exact ⟨rfl, rfl⟩
theorem gen_none (s : Nat) (c0 c1 c2 : Value) (h : w.heap[s]? = some (.cells #[c0, c1, c2, .bool false] 56 (0, 0))) : Calls Tryz.prog 8 #[.pointer (some ⟨s, 0, none⟩)] w fun e w' => e = .returned (.int .i64 0) ∧ w' = w := by
  have q := none_is s c0 c1 c2 false w h
  clear h
  replace q := hide q
  go_enter Tryz.func8, Tryz.ntmps8
  go_wp2_with fail
  refine (q.out).mono ?_
  rintro e w ⟨rfl, rfl⟩
  clear q
  go_wp2_with fail
  go_ret
  exact ⟨rfl, rfl⟩
theorem set_none (s : Nat) (c0 c1 c2 : Value) (y : List UInt8) (h : w.heap[s]? = some (.cells #[c0, c1, c2, .bool false] 56 (0, 0))) : Calls Tryz.prog 10 #[.pointer (some ⟨s, 0, none⟩), .string (str y)] w fun e w' => e = .returned (.tuple #[.int .i64 0, .bool false]) ∧ w' = w := by
  have q := none_is s c0 c1 c2 false w h
  clear h
  replace q := hide q
  go_enter Tryz.func10, Tryz.ntmps10
  go_wp2_with fail
  refine (q.out).mono ?_
  rintro e w ⟨rfl, rfl⟩
  clear q
  go_wp2_with fail
  go_ret2
  exact ⟨rfl, rfl⟩
theorem set_any (h : StC w s mp lo hi n nv S) (y : List UInt8) (hy : y.length ≤ maxLen) : Calls Tryz.prog 10 #[.pointer (some ⟨s, 0, none⟩), .string (str y)] w fun e w' => e = .returned (.tuple #[.int .i64 (((S.sets y).getD 0 : Nat) : Int), .bool (S.sets y).isSome]) ∧ w' = w := by
  have q := none_any h
  have k1 := blk_cell h.blk 2
  have hl := look2 h.map y hy
  clear h
  replace q := hide q
  go_enter Tryz.func10, Tryz.ntmps10
  go_wp2_with fail
  refine (q.out).mono ?_
  rintro e w ⟨rfl, rfl⟩
  clear q
  go_wp2_with fail
  go_ret2
  exact ⟨rfl, rfl⟩
end
theorem lexE_ne : ∀ (l : List (List UInt8)) (i : Nat) (p : Nat × Int), Conf18.lexE i l = some p → p.2 ≠ 0
  | [], _, _, h => by cases h
  | x :: r, i, p, h => by
    unfold Conf18.lexE at h
    split at h
    · cases h
      assumption
    · exact lexE_ne r _ p h
theorem lineF_ne {c : Cfg} {ws : List (List UInt8)} {m : Nat} (h : Conf18.lineF c ws = .error m) : m ≠ 0 := by
  unfold Conf18.lineF at h
  split at h
  · unfold Conf18.factorF at h
    repeat' split at h
    all_goals (cases h <;> decide)
  split at h
  · unfold Conf18.domainF at h
    repeat' split at h
    all_goals (cases h <;> decide)
  split at h
  · unfold Conf18.selfF at h
    repeat' split at h
    all_goals (cases h <;> decide)
  split at h
  · unfold Conf18.vipF at h
    repeat' split at h
    all_goals (cases h <;> decide)
  split at h
  · unfold Conf18.viewF at h
    repeat' split at h
    all_goals (cases h <;> decide)
  split at h
  · unfold Conf18.nodeF at h
    repeat' split at h
    all_goals (cases h <;> decide)
  · cases h
    decide
theorem linesF_ne : ∀ (l : List (Nat × List (List UInt8))) (c : Cfg) (p : Nat × Nat), Conf18.linesF c l = .error p → p.2 ≠ 0
  | [], _, _, h => by cases h
  | x :: l, c, p, h => by
    unfold Conf18.linesF at h
    split at h
    · rename_i e
      cases h
      exact lineF_ne e
    · exact linesF_ne l _ p h
theorem confF_err {t : List UInt8} {p : Nat × Int} (h : confF t = .error p) : p.2 ≠ 0 := by
  unfold confF at h
  split at h
  · rename_i e
    cases h
    exact lexE_ne _ _ _ e
  · split at h
    · rename_i e
      cases h
      have := linesF_ne _ _ _ e
      dsimp only
      omega
    · cases h
theorem cfgV_open {w : World} {base : Nat} {c : Cfg} {v : Array Value} (h : CfgV w base c v) : ∃ A1 A2 A3 k1 k2 k3, v = cfC c (.slice A1 c.nodes.length k1) (.slice A2 c.vips.length k2) (.slice A3 c.views.length k3) ∧ CfgR w w.heap.size c A1 A2 A3 k1 k2 k3 ∧ (c.nodes.length ≤ k1 ∧ k1 ≤ maxLen) ∧ (c.vips.length ≤ k2 ∧ k2 ≤ maxLen) ∧ (c.views.length ≤ k3 ∧ k3 ≤ maxLen) := by
  obtain ⟨A1, k1, e1, a1, b1, h1⟩ := own_isv h.nodes
  obtain ⟨A2, k2, e2, a2, b2, h2⟩ := own_isv h.vips
  obtain ⟨A3, k3, e3, a3, b3, h3⟩ := own_isv h.views
  have := h.arr
  rw [e1, e2, e3] at this
  exact ⟨A1, A2, A3, k1, k2, k3, this, ⟨⟨rfl, h1⟩, ⟨rfl, h2⟩, ⟨rfl, h3⟩⟩, ⟨a1, b1⟩, ⟨a2, b2⟩, ⟨a3, b3⟩⟩
/-- A store's cells are written. -/
theorem StC.load {w w5 w6 w8 : World} {s mp lo hi n : Nat} {nv : Value} {S : St} {c : Cfg} {x : Nat} (h : StC w s mp lo hi n nv S) (hb : Below w.heap.size w w5) (hm : MapI w6 mp 0 (fun _ => none)) (hg : w5.grownBy w6 (some mp)) (hV : VAt w5 w.heap.size x c) (hc : validF c = 0 ∧ c.good big)
    (e : (w6.setCell ⟨s, 0, none⟩ (.pointer (some ⟨x, 0, none⟩))).setCell ⟨s, 1, none⟩ (.int .i64 ((S.gen : Int) + 1)) = w8) : StTo w w8 s mp lo hi n ⟨some c, S.gen + 1, fun _ => none⟩ := by
  have hl := h.lt
  have hz := hb.size
  have h5 := h.below hb
  have b6 := (hg.block s h5.lt.1 (by intro e; exact h.ne (Option.some.inj e))).trans h5.blk
  have b7 := blk_set b6 0 (.pointer (some ⟨x, 0, none⟩))
  have b8 := blk_set b7 1 (.int .i64 ((S.gen : Int) + 1))
  have g7 := store_cell b6 0 (.pointer (some ⟨x, 0, none⟩))
  obtain ⟨w7, e7, -, g7⟩ := g7
  rw [e7] at e b7 b8
  obtain ⟨w8', e8, -, g8⟩ := store_cell b7 1 (.int .i64 ((S.gen : Int) + 1))
  rw [e8] at e b8
  subst e
  have hk : ∀ k, k < w5.heap.size → k ≠ s → k ≠ mp → w8'.heap[k]? = w5.heap[k]? := fun k hk h1 h2 =>
    ((g8.block k (by have := g7.size; have := hg.size; omega) (by intro e; exact h1 (Option.some.inj e))).trans (g7.block k (by have := hg.size; omega) (by intro e; exact h1 (Option.some.inj e)))).trans (hg.block k hk (by intro e; exact h2 (Option.some.inj e)))
  have hmz := mapI_lt hm
  refine ⟨w.heap.size, w5.heap.size, 0, .pointer (some ⟨x, 0, none⟩), ⟨by simpa using b8, ⟨x, rfl, (VIn.mk hV).keep fun k h1 h2 => hk k h2 (by omega) (by omega)⟩, ?_, ?_, .inl (by omega), .inl (by omega), ?_⟩, by omega, .inr (Nat.le_refl _), ?_⟩
  · refine mapI_on hm ?_
    have e2 : some mp ≠ some s := by intro e; exact h.ne (Option.some.inj e).symm
    exact (g8.block mp (by have := g7.size; omega) e2).trans (g7.block mp hmz e2)
  · intro c2 hc2
    cases hc2
    exact hc
  · have := g8.size; have := g7.size; have := hg.size; omega
  · refine ⟨?_, ?_, ?_, ?_, fun k hk1 hk2 => ?_⟩
    · exact ((g8.os.trans g7.os).trans hg.os).trans hb.os
    · exact ((g8.tape.trans g7.tape).trans hg.tape).trans hb.tape
    · exact ((g8.output.trans g7.output).trans hg.output).trans hb.output
    · have := g8.size; have := g7.size; have := hg.size; omega
    · exact (hk k (by omega) (fun e => hk2 (.inl e)) (fun e => hk2 (.inr e))).trans (hb.block k hk1)
theorem StC.same {w w' : World} {s mp lo hi n : Nat} {nv : Value} {S : St} (h : StC w s mp lo hi n nv S) (hb : Below w.heap.size w w') : StTo w w' s mp lo hi n S :=
  ⟨lo, hi, n, nv, h.below hb, by omega, .inl ⟨rfl, rfl⟩, keptS_of_below hb (Nat.le_refl _)⟩
set_option maxRecDepth 20000 in
set_option maxHeartbeats 8000000 in
theorem load_any {s mp lo hi n : Nat} {nv : Value} (S : St) (t : List UInt8) (ht : t.length ≤ 65536) (w : World) (h : StC w s mp lo hi n nv S) (hgen : S.gen < big) (hM : MaxAt w) :
    Calls Tryz.prog 14 #[.pointer (some ⟨s, 0, none⟩), .string (str t)] w fun e w' => e = .returned (.tuple #[.int .i64 (loadS S t).2.1, .int .i64 (loadS S t).2.2]) ∧ StTo w w' s mp lo hi n (loadS S t).1 := by
  have q0 := none_any h
  have qP := confParse_any t ht w hM
  unfold ParseEnd at qP
  obtain ⟨X, hX⟩ : ∃ X, loadS S t = X := ⟨_, rfl⟩
  rw [hX]
  unfold loadS at hX
  have hz := h.lt
  clear hM
  replace h := hide h
  replace qP := hide qP
  replace hX := hide hX
  replace q0 := hide q0
  go_enter Tryz.func14, Tryz.ntmps14
  go_wp2_with fail
  refine (q0.out).mono ?_
  rintro e w ⟨rfl, rfl⟩
  clear q0
  go_upto_region 3 with fail
  apply wp_region_lit
  iterate 1 (refine wpList_plain rfl fun K hK => ?_; go_simp; refine hK _ _ ?_; clear hK K)
  refine wpList_plain rfl fun K hK => ?_
  go_simp
  refine (qP.out).mono ?_
  rintro e w2 ⟨hb2, hend⟩
  clear qP
  have hz2 := hb2.size
  rcases hend with ⟨p, hp, rfl⟩ | ⟨c, v, hp, rfl, hv, hs⟩
  · have hX1 := hX.out
    rw [hp] at hX1
    dsimp only at hX1
    subst hX1
    have hne := confF_err hp
    clear hX hp
    go_simp
    refine hK _ _ ?_
    clear hK K
    iterate 4 (refine wpList_plain rfl fun K hK => ?_; go_simp; refine hK _ _ ?_; clear hK K)
    refine wpl_new rfl rfl 34 _ (alloc_cf _ rfl) 6 rfl (.tmp 15) rfl _ (fun _ => rfl) (fun _ => rfl) rfl (by kernel_rfl) (cf_one _ _ _ rfl rfl rfl _ _ _ _ _ _ _ _) ?_
    intro w4 hg4 hb4 hz4
    iterate 2 (refine wpList_plain rfl fun K hK => ?_; go_simp; refine hK _ _ ?_; clear hK K)
    refine wpList_nil ?_
    go_simp
    have hne2 : (p.2 != 0) = true := by rw [bne_iff_ne]; exact hne
    have hB := hb2.trans (hb4.mono hz2)
    clear hg4 hb4 hz4 hb2
    replace hB := hide hB
    go_wp2_with fail
    go_ret2
    exact ⟨rfl, h.out.same hB.out⟩
  · obtain ⟨A1, A2, A3, k1, k2, k3, rfl, hR, j1, j2, j3⟩ := cfgV_open hv
    have hg := confF_good hp
    have hX1 := hX.out
    rw [hp] at hX1
    dsimp only at hX1
    clear hX hp hv
    replace hX1 := hide hX1
    replace hg := hide hg
    go_simp
    refine hK _ _ ?_
    clear hK K
    iterate 4 (refine wpList_plain rfl fun K hK => ?_; go_simp; refine hK _ _ ?_; clear hK K)
    refine wpl_new rfl rfl 34 _ (alloc_cf _ rfl) 6 rfl (.tmp 15) rfl _ (fun _ => rfl) (fun _ => rfl) rfl (by kernel_rfl) (cf_one _ _ _ rfl rfl rfl _ _ _ _ _ _ _ _) ?_
    intro w4 hg4 hb4 hz4
    iterate 2 (refine wpList_plain rfl fun K hK => ?_; go_simp; refine hK _ _ ?_; clear hK K)
    refine wpList_nil ?_
    go_simp
    have hgo := hg.out
    have qv := vnew_any c hs (fun y hy => Nat.le_trans (hgo.nodes y hy).2 (Nat.le_trans ht (by decide))) hgo.views w4 A1 A2 A3 k1 k2 k3 j1 j2 j3 (hR.on hb4)
    unfold VNewEnd at qv
    have hB4 : Below w.heap.size w w4 := hb2.trans (hb4.mono hz2)
    have hgb : c.good big := ⟨fun y hy => ⟨(hgo.nodes y hy).1, Nat.le_trans (hgo.nodes y hy).2 (Nat.le_trans ht (by decide))⟩, hgo.vips, hgo.views, hgo.s0, hgo.s1⟩
    clear hgo hb2 hb4 hR j1 j2 j3 hs hg
    replace hB4 := hide hB4
    replace qv := hide qv
    replace hgb := hide hgb
    replace hg4 := hide hg4
    go_upto_region 6 with fail
    apply wp_region_lit
    refine wpl_ld rfl 34 (.tmp 6) rfl w2.heap.size rfl (cfC c (.slice A1 c.nodes.length k1) (.slice A2 c.vips.length k2) (.slice A3 c.views.length k3)) _ hg4.out Tryz.underlying34 rfl (by kernel_rfl) ?_
    refine wpList_plain rfl fun K hK => ?_
    go_simp
    refine (qv.out).mono ?_
    rintro e w5 ⟨hb5, hend⟩
    clear qv hg4
    have hB5 := hB4.out.trans (hb5.mono (by have := hB4.out.size; omega))
    obtain ⟨V, hV⟩ : ∃ V, validF c = V := ⟨_, rfl⟩
    rw [hV] at hend
    have hX2 := hX1.out
    rw [hV] at hX2
    clear hX1
    rcases hend with ⟨hne, rfl⟩ | ⟨hv0, x, rfl, hVx⟩
    · rw [if_pos hne] at hX2
      subst hX2
      have hne2 : ((V : Int) != 0) = true := by rw [bne_iff_ne]; omega
      clear hb5 hV
      replace hB5 := hide hB5
      go_simp
      refine hK _ _ ?_
      clear hK K
      iterate 5 (refine wpList_plain rfl fun K hK => ?_; go_simp; refine hK _ _ ?_; clear hK K)
      refine wpList_nil ?_
      go_simp
      go_wp2_with fail
      go_ret2
      exact ⟨rfl, h.out.same hB5.out⟩
    · rw [if_neg (fun h => h hv0)] at hX2
      subst hX2
      subst hv0
      have h5 := h.out.below hB5
      obtain ⟨w6, hcl, hm6, hg6⟩ := run_clear h5.map
      have hVw : VAt w5 w.heap.size x c := by
        obtain ⟨⟨A1, A2, A3, k1, k2, k3, t, a1, a2, a3, a4⟩⟩ := hVx
        have := hB4.out.size
        exact ⟨⟨A1, A2, A3, k1, k2, k3, t, a1, by omega, ⟨row_weaken a3.nodes this, row_weaken a3.vips this, row_weaken a3.views this, a3.arr⟩, TreeAt.weak a4 this⟩⟩
      have hld := fun w8 => StC.load (w8 := w8) h.out hB5 hm6 hg6 hVw ⟨hV, hgb.out⟩
      have b6 := (hg6.block s h5.lt.1 (by intro e; exact h5.ne (Option.some.inj e))).trans h5.blk
      have c2 := blk_cell h5.blk 2
      have f0 := blk_free b6 0
      have c0 := blk_cell b6 0
      have b7 := blk_set b6 0 (.pointer (some ⟨x, 0, none⟩))
      have c1 := blk_cell b7 1
      have f1 := blk_free b7 1
      have wg : IntKind.i64.wrap ((S.gen : Int) + 1) = (S.gen : Int) + 1 := wraps62 _ (by omega) (by unfold big at hgen; omega)
      clear h5 hm6 hg6 hVx hVw hb5 b6 b7 hV
      replace hld := hide hld
      replace hB5 := hide hB5
      go_simp
      refine hK _ _ ?_
      clear hK K
      iterate 5 (refine wpList_plain rfl fun K hK => ?_; go_simp; refine hK _ _ ?_; clear hK K)
      refine wpList_nil ?_
      go_simp
      go_wp2_with fail
      go_ret2
      exact ⟨rfl, hld.out _ rfl⟩
end Store20
end Go.Proofs.YtcpokkkdmenmgaaGreatDoor
/- store: Weight. Condition: names of at most 2^40 bytes, fewer than 2^40 changes. -/
namespace Go.Proofs.YtcpokkkdmenmgaaGreatDoor
open Go.RowKit Go.ChangeShapes Go.WideShapes Go.ChangeAt Go.Deep
namespace Store20
open Conf18 (Nd Vp Vw Cfg zA MapI lt_of_blk cfC CfgR CfgV alloc_cf cf_one ndC vpC vwC info_nd ndC_one row_set)
open Addr05 (Adr MaxAt)
open Tree16 (ndA nodeF findF find_any node_any TreeAt)
open Val19
theorem flat_set {α : Type} (f : α → List Value) (size : Nat) (hf : ∀ x, (f x).length = size) (j : Nat) (u : Value) (hj : j < size) : ∀ (l : List α) (i : Nat) (x y : α), l[i]? = some x → f y = (f x).set j u → ((l.set i y).map f).flatten = (l.map f).flatten.set (i * size + j) u
  | [], i, x, y, h, _ => by simp at h
  | a :: l, 0, x, y, h, he => by
    have : a = x := by simpa using h
    subst this
    rw [List.set_cons_zero, List.map_cons, List.flatten_cons, List.map_cons, List.flatten_cons, he, List.set_append, if_pos (by rw [hf]; omega)]
    congr 2
    omega
  | a :: l, i + 1, x, y, h, he => by
    have ih := flat_set f size hf j u hj l i x y (by simpa using h) he
    have e : (i + 1) * size + j = size + (i * size + j) := by rw [Nat.succ_mul]; omega
    rw [List.set_cons_succ, List.map_cons, List.flatten_cons, List.map_cons, List.flatten_cons, ih, List.set_append, if_neg (by rw [hf, e]; omega), hf, e, Nat.add_sub_cancel_left]
theorem row_updS {w : World} {base size : Nat} {e : TypeId} {A : Option Addr} {n k : Nat} {xs : List Value} (h : w.ownsRow base e size (.slice A n k) n xs) {i : Nat} (hi : i < n * size) (u : Value) :
    ∃ g cur, A = some ⟨g, 0, none⟩ ∧ base ≤ g ∧ w.heap[g]? = some (.cells cur e (0, 0)) ∧ i < cur.size ∧ (w.setCell ⟨g, i, none⟩ u).ownsRow base e size (.slice A n k) n (xs.set i u) := by
  obtain ⟨hl, ⟨h1, h0⟩ | ⟨g, cap, cur, hv, hg, hh, h1, h2, h3, h4⟩⟩ := h
  · subst h0
    simp at hi
  · cases hv
    have hle : n * size ≤ k * size := Nat.mul_le_mul_right _ h1
    refine ⟨g, cur, rfl, hg, hh, by omega, by rw [List.length_set]; exact hl, .inr ⟨g, k, cur.setIfInBounds i u, rfl, hg, blk_set hh i u, h1, h2, by rw [Array.size_setIfInBounds]; exact h3, ?_⟩⟩
    rw [Array.toList_setIfInBounds, List.take_set, h4]
theorem kind_host {ns : List Nd} {y : List UInt8} (h : (nodeF ns (findF ns y)).kind = 4) : ∃ k, hostOf ns y = some k ∧ findF ns y = (k : Int) ∧ k < ns.length := by
  unfold findF at h ⊢
  unfold hostOf
  rcases e : ns.findIdx? (fun n => decide (n.name = y)) with _ | j
  · rw [e] at h
    unfold nodeF at h
    rw [if_pos (.inl (by decide))] at h
    cases h
  · rw [e] at h
    have e' := e
    rw [List.findIdx?_eq_some_iff_getElem] at e'
    obtain ⟨hj, he, _⟩ := e'
    unfold nodeF at h
    dsimp only at h
    rw [if_neg (by omega), Int.toNat_natCast, List.getD_eq_getElem?_getD, List.getElem?_eq_getElem hj] at h
    rw [e]
    dsimp only
    rw [List.getElem?_eq_getElem hj]
    exact ⟨j, if_pos h, rfl, hj⟩
theorem host_kind {ns : List Nd} {y : List UInt8} (h : (nodeF ns (findF ns y)).kind ≠ 4) : hostOf ns y = none := by
  rcases e : hostOf ns y with _ | k
  · rfl
  · obtain ⟨n, h1, h2, h3, h4⟩ := hostOf_some e
    exfalso
    apply h
    obtain ⟨hk, hke⟩ := List.getElem?_eq_some_iff.1 h1
    rw [h4]
    unfold nodeF
    rw [if_neg (by omega), Int.toNat_natCast, List.getD_eq_getElem?_getD, h1]
    exact h3
theorem cfgV_R {w : World} {base : Nat} {c : Cfg} {A1 A2 A3 : Option Addr} {k1 k2 k3 : Nat} (h : CfgV w base c (cfC c (.slice A1 c.nodes.length k1) (.slice A2 c.vips.length k2) (.slice A3 c.views.length k3))) :
    CfgR w w.heap.size c A1 A2 A3 k1 k2 k3 ∧ (c.nodes.length ≤ k1 ∧ k1 ≤ maxLen) ∧ (c.vips.length ≤ k2 ∧ k2 ≤ maxLen) ∧ (c.views.length ≤ k3 ∧ k3 ≤ maxLen) := by
  obtain ⟨B1, j1, e1, a1, b1, h1⟩ := own_isv h.nodes
  obtain ⟨B2, j2, e2, a2, b2, h2⟩ := own_isv h.vips
  obtain ⟨B3, j3, e3, a3, b3, h3⟩ := own_isv h.views
  cases (show Value.slice A1 c.nodes.length k1 = _ from e1)
  cases (show Value.slice A2 c.vips.length k2 = _ from e2)
  cases (show Value.slice A3 c.views.length k3 = _ from e3)
  exact ⟨⟨⟨rfl, h1⟩, ⟨rfl, h2⟩, ⟨rfl, h3⟩⟩, ⟨a1, b1⟩, ⟨a2, b2⟩, ⟨a3, b3⟩⟩
theorem plain_small {c : Cfg} (h : plainF c = 0) : c.vips.length ≤ 64 ∧ c.views.length ≤ 64 := by
  unfold plainF at h
  split at h
  · cases h
  · split at h
    · cases h
    · split at h
      · cases h
      · omega
theorem wt_flat {ns : List Nd} {k : Nat} {n : Nd} {x : Int} (h : ns[k]? = some n) : ((wtN ns k x).map ndC).flatten = (ns.map ndC).flatten.set (k * 7 + 3) (.int .i64 x) := by
  have := flat_set ndC 7 (fun _ => rfl) 3 (.int .i64 x) (by decide) ns k n { n with weight := x } h rfl
  unfold wtN
  rw [h]
  exact this
theorem field_kind (nm : ByteArray) (kd ab wt : Int) (av : Bool) (ah al : Int) (w : World) : (Instr.field 68 (.agg #[.string nm, .int .i64 kd, .int .i64 ab, .int .i64 wt, .bool av, .int .u64 ah, .int .u64 al]) 1).run Tryz.prog w = .ok (.int .i64 kd) w := by kernel_rfl
theorem range_of {w : World} {x : Nat} {T : TypeId} {a b : Array Value} (h : w.heap[x]? = some (.cells (a ++ b) T (0, 0))) : w.rangeAt x 0 a.toList := fun j v hv => by
  rw [Nat.zero_add, blk_cell h j]
  have hj := (List.getElem?_eq_some_iff.1 hv).1
  rw [Array.getElem?_append_left (by simpa using hj)]
  simpa using hv
/-- A store's cells are written. -/
theorem StC.wt {w w5 w6 w7 w8 : World} {s mp lo hi n : Nat} {nv : Value} {S : St} {c : Cfg} {x : Nat} {F : List UInt8 → Option Nat} (h : StC w s mp lo hi n nv S) (hb : Below w.heap.size w w5) (hV : VAt w5 w.heap.size x c) (hc : validF c = 0 ∧ c.good big)
    (e6 : w5.setCell ⟨s, 0, none⟩ (.pointer (some ⟨x, 0, none⟩)) = w6) (hm : MapI w7 mp (n + 1) F) (hg : w6.grownBy w7 (some mp))
    (e : w7.setCell ⟨s, 1, none⟩ (.int .i64 ((S.gen : Int) + 1)) = w8) : StTo w w8 s mp lo hi n ⟨some c, S.gen + 1, F⟩ := by
  have hl := h.lt
  have hz := hb.size
  have h5 := h.below hb
  obtain ⟨w6', e6', b6, g6⟩ := store_cell h5.blk 0 (.pointer (some ⟨x, 0, none⟩))
  rw [e6'] at e6
  subst e6
  have hz6 := g6.size
  have b7 := (hg.block s (by omega) (by intro e; exact h.ne (Option.some.inj e))).trans b6
  obtain ⟨w8', e8, b8, g8⟩ := store_cell b7 1 (.int .i64 ((S.gen : Int) + 1))
  rw [e8] at e
  subst e
  have hz7 := hg.size
  have hz8 := g8.size
  have hk : ∀ k, k < w5.heap.size → k ≠ s → k ≠ mp → w8'.heap[k]? = w5.heap[k]? := fun k hk h1 h2 =>
    ((g8.block k (by omega) (by intro e; exact h1 (Option.some.inj e))).trans (hg.block k (by omega) (by intro e; exact h2 (Option.some.inj e)))).trans (g6.block k hk (by intro e; exact h1 (Option.some.inj e)))
  have hmz := mapI_lt hm
  refine ⟨w.heap.size, w5.heap.size, n + 1, .pointer (some ⟨x, 0, none⟩), ⟨by simpa using b8, ⟨x, rfl, (VIn.mk hV).keep fun k h1 h2 => hk k h2 (by omega) (by omega)⟩, ?_, ?_, .inl (by omega), .inl (by omega), by omega⟩, by omega, .inr (Nat.le_refl _), ?_⟩
  · exact mapI_on hm (g8.block mp hmz (by intro e; exact h.ne (Option.some.inj e).symm))
  · intro c2 hc2
    cases hc2
    exact hc
  · refine ⟨?_, ?_, ?_, by omega, fun k hk1 hk2 => ?_⟩
    · exact ((g8.os.trans hg.os).trans g6.os).trans hb.os
    · exact ((g8.tape.trans hg.tape).trans g6.tape).trans hb.tape
    · exact ((g8.output.trans hg.output).trans g6.output).trans hb.output
    · exact (hk k (by omega) (fun e => hk2 (.inl e)) (fun e => hk2 (.inr e))).trans (hb.block k hk1)
set_option maxRecDepth 20000 in
set_option maxHeartbeats 8000000 in
theorem weight_any {s mp lo hi n : Nat} {nv : Value} (S : St) (y : List UInt8) (hy : y.length ≤ maxLen) (x : Int) (w : World) (h : StC w s mp lo hi n nv S) (hgen : S.gen < big) (hn : n < big) :
    Calls Tryz.prog 16 #[.pointer (some ⟨s, 0, none⟩), .string (str y), .int .i64 x] w fun e w' => e = .returned (.int .i64 ((weightS S y x).2 : Int)) ∧ StTo w w' s mp lo hi n (weightS S y x).1 := by
  have q0 := none_any h
  obtain ⟨X, hX⟩ : ∃ X, weightS S y x = X := ⟨_, rfl⟩
  rw [hX]
  unfold weightS at hX
  have hz := h.lt
  have k0 := blk_cell h.blk 0
  rcases hc : S.c with _ | c
  · rw [hc] at hX
    dsimp only at hX
    subst hX
    have e0 : nv = .pointer none := by have := h.now; rw [hc] at this; exact this
    subst e0
    replace q0 := hide q0
    replace h := hide h
    go_enter Tryz.func16, Tryz.ntmps16
    go_wp2_with fail
    refine (q0.out).mono ?_
    rintro e w ⟨rfl, rfl⟩
    clear q0
    go_wp2_with fail
    go_ret
    exact ⟨rfl, h.out.same (Below.refl _ _)⟩
  obtain ⟨x0, e0, hV⟩ : ∃ x, nv = .pointer (some ⟨x, 0, none⟩) ∧ VIn w lo hi x c := by have := h.now; rw [hc] at this; exact this
  subst e0
  rw [hc] at hX
  dsimp only at hX
  have hok := h.ok c hc
  obtain ⟨⟨A1, A2, A3, k1, k2, k3, t, hb0, hx0, hcv, hT⟩⟩ := hV.at
  have hT1 := hT
  by_cases hx1 : x < 0
  · rw [if_pos (.inl hx1)] at hX
    subst hX
    replace q0 := hide q0
    replace h := hide h
    clear hb0 hcv hT hT1 hV hok
    go_enter Tryz.func16, Tryz.ntmps16
    go_wp2_with fail
    refine (q0.out).mono ?_
    rintro e w ⟨rfl, rfl⟩
    clear q0
    go_wp2_with fail
    go_ret
    exact ⟨rfl, h.out.same (Below.refl _ _)⟩
  by_cases hx2 : 65535 < x
  · rw [if_pos (.inr hx2)] at hX
    subst hX
    replace q0 := hide q0
    replace h := hide h
    clear hb0 hcv hT hT1 hV hok
    go_enter Tryz.func16, Tryz.ntmps16
    go_wp2_with fail
    refine (q0.out).mono ?_
    rintro e w ⟨rfl, rfl⟩
    clear q0
    go_wp2_with fail
    go_ret
    exact ⟨rfl, h.out.same (Below.refl _ _)⟩
  rw [if_neg (by omega)] at hX
  have qf := find_any c.nodes y lo t w hT
  have qn := fun w' (hb : Below w.heap.size w w') => node_any c.nodes (findF c.nodes y) lo t w' (treeAt_kp hT1 (Kp.of_below hb (Nat.le_refl _)))
  have k11 := blk_cell hb0 11
  have hkh := kind_host (ns := c.nodes) (y := y)
  have hhk := host_kind (ns := c.nodes) (y := y)
  obtain ⟨fi, hfi⟩ : ∃ i, findF c.nodes y = i := ⟨_, rfl⟩
  rw [hfi] at qf qn hkh hhk
  obtain ⟨⟨nm, kd, ab, wt, ⟨av, ah, al⟩⟩, hnd⟩ : ∃ nd, nodeF c.nodes fi = nd := ⟨_, rfl⟩
  rw [hnd] at qn hkh hhk
  unfold ndA at qn
  dsimp only at qn hkh hhk
  clear hT hT1 hfi hnd
  unfold cfC at k11
  replace q0 := hide q0
  replace h := hide h
  replace qf := hide qf
  replace qn := hide qn
  replace hX := hide hX
  replace hkh := hide hkh
  replace hhk := hide hhk
  replace hV := hide hV
  replace hok := hide hok
  replace hb0 := hide hb0
  replace hcv := hide hcv
  go_enter Tryz.func16, Tryz.ntmps16
  go_wp2_with fail
  refine (q0.out).mono ?_
  rintro e w ⟨rfl, rfl⟩
  clear q0
  go_wp2_with fail
  refine (qf.out).mono ?_
  rintro e w1 ⟨rfl, hb1⟩
  have q2 := qn.out w1 hb1
  have h1 := h.out.below hb1
  have hb01 := blk_below hb1 (lt_of_blk hb0.out) hb0.out
  have k0 := blk_cell h1.blk 0
  have k11 := blk_cell hb01 11
  unfold cfC at k11
  clear qf qn h1
  replace q2 := hide q2
  replace hb1 := hide hb1
  replace hb01 := hide hb01
  go_wp2_with fail
  refine (q2.out).mono ?_
  rintro e w2 ⟨rfl, hb2⟩
  have hB2 := hb1.out.trans (hb2.mono hb1.out.size)
  clear q2 hb1 hb2 hb01 k0 k11
  have hfk := field_kind (str nm) kd ab wt av (ah : Int) (al : Int) w2
  by_cases hk4 : kd = 4
  case neg =>
    have hX1 := hX.out
    rw [hhk.out hk4] at hX1
    dsimp only at hX1
    subst hX1
    clear hX hkh hhk hV hok hb0 hcv
    have hne : (kd != 4) = true := by rw [bne_iff_ne]; exact hk4
    replace hB2 := hide hB2
    go_wp2_with fail
    go_ret
    exact ⟨rfl, h.out.same hB2.out⟩
  obtain ⟨k, e1, e2, hkl⟩ := hkh.out hk4
  have hX1 := hX.out
  rw [e1] at hX1
  dsimp only at hX1
  subst hX1
  subst hk4
  subst e2
  obtain ⟨nd, hnk, -, hn4, -⟩ := hostOf_some e1
  obtain ⟨xn, rfl⟩ : ∃ xn : Nat, x = (xn : Int) := ⟨x.toNat, by omega⟩
  have hb02 := blk_below hB2 (lt_of_blk hb0.out) hb0.out
  obtain ⟨hR, j1, j2, j3⟩ := cfgV_R hcv.out
  have h2 := h.out.below hB2
  have k0 := blk_cell h2.blk 0
  have hrg := range_of hb02
  have hv9 := valid_wt hok.out.1 hnk hn4 (x := (xn : Int)) (by omega) (by omega)
  have hg9 := good_wt (x := (xn : Int)) hok.out.2 hnk
  have hlen : (setW c k (xn : Int)).nodes.length = c.nodes.length := wtN_len _ _ _
  have hcc := validF_parts hok.out.1
  have hsm : c.nodes.length ≤ 1024 := by
    obtain ⟨nv, kv, tv, hv, us, hC⟩ := (hV.out.at).h.choose_spec.choose_spec.choose_spec.choose_spec.choose_spec.choose_spec.choose_spec.2.2.2
    exact hC.small.1
  have hB2z := hB2.size
  clear hX hkh hhk hV hok hb0 hcv h2 hb02
  replace hR := hide hR
  replace hrg := hide hrg
  replace hv9 := hide hv9
  replace hg9 := hide hg9
  replace hB2 := hide hB2
  replace hnk := hide hnk
  replace hcc := hide hcc
  go_upto_region 8 with fail
  apply wp_region_lit
  iterate 6 (refine wpList_plain rfl fun K hK => ?_; go_simp; refine hK _ _ ?_; clear hK K)
  refine wpList_load_mid rfl 34 (.tmp 53) rfl x0 0 rfl _ _ hrg.out Tryz.underlying34 rfl (by kernel_rfl) ?_
  simp only [Array.toArray_toList]
  refine wpl_new rfl rfl 34 _ (alloc_cf _ rfl) 8 rfl (.tmp 54) rfl _ (fun _ => rfl) (fun _ => rfl) rfl (by kernel_rfl) (cf_one _ _ _ rfl rfl rfl _ _ _ _ _ _ _ _) ?_
  intro w4 hg4 hb4 hz4
  refine wpList_nil ?_
  go_simp
  clear hrg k0
  have hB4 := hB2.out.trans (hb4.mono hB2z)
  unfold cfC at hg4
  obtain ⟨i1, hi1, hy1, hsz1, hbt1⟩ := info_parts info_nd
  have hc0 := blk_cell hg4 0
  clear hb4 hB2
  replace hg4 := hide hg4
  replace hB4 := hide hB4
  go_upto_region 9 with fail
  apply wp_region_lit
  iterate 2 (refine wpList_plain rfl fun K hK => ?_; go_simp; refine hK _ _ ?_; clear hK K)
  clear hc0
  refine wpl_append _ rfl (.const (.slice none 0 0)) (.tmp 56) 26 rfl w.heap.size 68 i1 _ 7 64 Tryz.underlying26 hi1 hy1 hsz1 hbt1 rfl (by decide) (.slice none 0 0) 0 [] rfl (World.ownsRow_nil _ _ _ _) w.heap.size A1 c.nodes.length k1 _ rfl (hR.out.nodes.below hB4.out).2 (flat_one ndC ndC_one _) (by unfold maxLen; omega) (by omega) hB4.out.size fun v w5 q1 q2 q3 => ?_
  rw [Nat.zero_add, List.nil_append] at q1
  obtain ⟨B1, m1, hv, l1, l2, -⟩ := own_isv q1
  subst hv
  have hz5 := q2.size
  have hg5 := (q2.block _ hz4 (by intro e; cases e)).trans hg4.out
  have hB5 := hB4.out.trans (below_of_grown q2 hB4.out.size (fun k hk => by cases hk))
  have hc0 := blk_cell hg5 0
  have hf0 := blk_free hg5 0
  obtain ⟨w6, hw6⟩ : ∃ w6, w5.setCell ⟨w2.heap.size, 0, none⟩ (.slice B1 c.nodes.length m1) = w6 := ⟨_, rfl⟩
  obtain ⟨w6', hw6', hg6, g6⟩ := store_cell hg5 0 (.slice B1 c.nodes.length m1)
  rw [hw6] at hw6'
  subst hw6'
  have ho6 := hw6 ▸ row_set q1 hg5 (by decide) 0 (.slice B1 c.nodes.length m1)
  have hB6 : Below w.heap.size w w6 := hw6 ▸ hB5.setCell (p := ⟨w2.heap.size, 0, none⟩) hB2z _
  have hz6 := g6.size
  obtain ⟨g, cur, hA1, hgw, hgb, hgi, ho7⟩ := row_updS ho6 (i := k * 7 + 3) (by omega) (.int .i64 (xn : Int))
  subst hA1
  have hgne : g ≠ w2.heap.size := by
    rintro rfl
    rw [hg6] at hgb
    simp at hgb
  have hg6c := hg6
  simp only [List.setIfInBounds_toArray, List.set_cons_zero] at hg6c
  obtain ⟨w7, hw7⟩ : ∃ w7, w6.setCell ⟨g, k * 7 + 3, none⟩ (.int .i64 (xn : Int)) = w7 := ⟨_, rfl⟩
  obtain ⟨w7', hw7', hg7, g7⟩ := store_cell hgb (k * 7 + 3) (.int .i64 (xn : Int))
  rw [hw7] at hw7' ho7
  subst hw7'
  have hB7 : Below w.heap.size w w7 := hw7 ▸ hB6.setCell (p := ⟨g, k * 7 + 3, none⟩) hgw _
  have hd0 := blk_cell hg6c 0
  have hdf := blk_free hgb (k * 7 + 3)
  have hdc : w6.cell? ⟨g, k * 7 + 3, none⟩ = some (cur[k * 7 + 3]'hgi) := (blk_cell hgb _).trans (Array.getElem?_eq_getElem hgi)
  have hps := plain_small hcc.out.1
  have hR7 : CfgR w7 w7.heap.size (setW c k (xn : Int)) (some ⟨g, 0, none⟩) A2 A3 m1 k2 k3 := by
    refine ⟨?_, istW (hR.out.vips.below hB7) hB7.size, istW (hR.out.views.below hB7) hB7.size⟩
    rw [hlen]
    obtain ⟨A9, m9, e9, -, -, h9⟩ := own_isv ho7
    cases e9
    exact ⟨hlen, by show IsV w7 w7.heap.size 7 _ _ ((wtN c.nodes k (xn : Int)).map ndC).flatten; rw [wt_flat hnk.out]; exact h9⟩
  have qv : Calls Tryz.prog 26 #[.agg (cfC c (.slice (some ⟨g, 0, none⟩) c.nodes.length m1) (.slice A2 c.vips.length k2) (.slice A3 c.views.length k3))] w7 fun e w' => VNewEnd (setW c k (xn : Int)) w7 w' e := by
    have := vnew_any (setW c k (xn : Int)) ⟨by rw [hlen]; omega, Nat.le_trans hps.1 (by decide), Nat.le_trans hps.2 (by decide)⟩ (fun y hy => (hg9.out.nodes y hy).2) hg9.out.views w7 (some ⟨g, 0, none⟩) A2 A3 m1 k2 k3 ⟨by rw [hlen]; exact l1, l2⟩ j2 j3 hR7
    rw [hlen] at this
    exact this
  unfold VNewEnd at qv
  have hg7z := (g7.block _ (lt_of_blk hg6c) (by intro e; exact hgne (Option.some.inj e).symm)).trans hg6c
  have hz7 := hB7.size
  clear q1 q2 q3 hg6 g6 hgb hg5 hB5 hB6 ho6 ho7 hg4 hB4 hg7 g7 hR7 hR hi1 hy1 hsz1 hbt1 hcc hps
  replace qv := hide qv
  replace hg7z := hide hg7z
  replace hB7 := hide hB7
  iterate 2 (refine wpList_plain rfl fun K hK => ?_; go_simp; refine hK _ _ ?_; clear hK K)
  refine wpList_nil ?_
  go_simp
  clear hc0 hf0 hw6
  go_upto_region 11 with fail
  clear hd0 hdf hdc hw7
  apply wp_region_lit
  unfold cfC at qv
  refine wpl_ld rfl 34 (.tmp 8) rfl w2.heap.size rfl (#[.slice (some ⟨g, 0, none⟩) c.nodes.length m1, .slice A2 c.vips.length k2, .slice A3 c.views.length k3, .int .i64 c.factor, .int .i64 c.domain, .bool c.s0.v6, .int .u64 (c.s0.hi : Int), .int .u64 (c.s0.lo : Int), .bool c.s1.v6, .int .u64 (c.s1.hi : Int), .int .u64 (c.s1.lo : Int)]) _ hg7z.out Tryz.underlying34 rfl (by kernel_rfl) ?_
  refine wpList_plain rfl fun K hK => ?_
  go_simp
  refine (qv.out).mono ?_
  rintro e w8 ⟨hb8, hend⟩
  rcases hend with ⟨hne, -⟩ | ⟨-, x9, rfl, hV9⟩
  · exact absurd hv9.out hne
  have hB8 := hB7.out.trans (hb8.mono hz7)
  have h8 := h.out.below hB8
  have hVw : VAt w8 w.heap.size x9 (setW c k (xn : Int)) := by
    obtain ⟨⟨A1, A2, A3, k1, k2, k3, t, a1, a2, a3, a4⟩⟩ := hV9
    exact ⟨⟨A1, A2, A3, k1, k2, k3, t, a1, by omega, ⟨row_weaken a3.nodes hz7, row_weaken a3.vips hz7, row_weaken a3.views hz7, a3.arr⟩, TreeAt.weak a4 hz7⟩⟩
  obtain ⟨w9, hw9⟩ : ∃ w9, w8.setCell ⟨s, 0, none⟩ (.pointer (some ⟨x9, 0, none⟩)) = w9 := ⟨_, rfl⟩
  obtain ⟨w9', hw9', hb9, g9⟩ := store_cell h8.blk 0 (.pointer (some ⟨x9, 0, none⟩))
  rw [hw9] at hw9'
  subst hw9'
  have c0 := blk_cell h8.blk 0
  have f0 := blk_free h8.blk 0
  have hm9 : MapI w9 mp n S.sets := mapI_on h8.map (g9.block mp (mapI_lt h8.map) (by intro e; exact h8.ne (Option.some.inj e).symm))
  have hne := h8.ne
  have c2 := blk_cell hb9 2
  clear qv hb8 h8 hV9 hg7z hB7 hgi g9
  replace hb9 := hide hb9
  replace hVw := hide hVw
  replace hm9 := hide hm9
  replace hB8 := hide hB8
  go_simp
  refine hK _ _ ?_
  clear hK K
  iterate 5 (refine wpList_plain rfl fun K hK => ?_; go_simp; refine hK _ _ ?_; clear hK K)
  refine wpList_nil ?_
  go_simp
  go_upto_region 15 with fail
  clear c0 f0
  apply wp_region_lit
  iterate 6 (refine wpList_plain rfl fun K hK => ?_; go_simp; refine hK _ _ ?_; clear hK K)
  refine wpList_plain rfl fun K hK => ?_
  refine wp_putI2 (.tmp 80) (.tmp 81) (.tmp 82) rfl mp n S.sets y xn hy hn (WalkArith.wf_i64 (by omega)) rfl rfl rfl hm9.out fun w10 hm10 hg10 v => ?_
  refine hK _ _ ?_
  clear hK K c2
  refine wpList_nil ?_
  go_simp
  have hld := fun w11 => StC.wt (w8 := w11) h.out hB8.out hVw.out ⟨hv9.out, hg9.out⟩ hw9 hm10 hg10
  have hb10 := (hg10.block s (lt_of_blk hb9.out) (by intro e; exact hne (Option.some.inj e))).trans hb9.out
  have c1 := blk_cell hb10 1
  have f1 := blk_free hb10 1
  have wg : IntKind.i64.wrap ((S.gen : Int) + 1) = (S.gen : Int) + 1 := wraps62 _ (by omega) (by unfold big at hgen; omega)
  clear hm10 hg10 hb10 hb9 hw9 hm9 hVw hB8
  replace hld := hide hld
  go_wp2_with fail
  go_ret
  exact ⟨rfl, hld.out _ rfl⟩
end Store20
end Go.Proofs.YtcpokkkdmenmgaaGreatDoor
