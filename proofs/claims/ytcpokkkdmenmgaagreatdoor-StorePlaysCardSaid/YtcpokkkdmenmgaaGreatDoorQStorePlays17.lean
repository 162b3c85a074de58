/- valid: plain: what stands beside a configuration's lists. No condition. -/
import Derived.Test.YtcpokkkdmenmgaaGreatDoorQStorePlays15
import Derived.Test.YtcpokkkdmenmgaaGreatDoorQStorePlays16
import Derived.Test.YtcpokkkdmenmgaaGreatDoorQStorePlays8
import Derived.Test.YtcpokkkdmenmgaaGreatDoorQStorePlays11
namespace Go.Proofs.YtcpokkkdmenmgaaGreatDoor
open Go.RowKit Go.ChangeShapes Go.WideShapes Go.ChangeAt Go.Deep
namespace Val19
open Conf18 (Nd Vp Vw Cfg zA ndC vpC vwC cfC CfgR lt_of_blk isRel_below)
open Addr05 (Adr alloc_adr adr_one)
open Tree16 (rightA treeF topF rightA_is)
theorem plainF_tests (c : Cfg) : plainF c = if (decide (c.factor < 100) || decide (1000 < c.factor) || ((c.domain != 2) && (c.domain != 3))) = true then 5
    else if (c.s0.v6 || !rightA c.s0 || (!decide (c.s1 = zA) && !c.s1.v6)) = true then 18 else if (decide ((64 : Int) < (c.vips.length : Int)) || decide ((64 : Int) < (c.views.length : Int))) = true then 6 else 0 := by
  unfold plainF
  have h1 : (c.factor < 100 ∨ 1000 < c.factor ∨ (c.domain ≠ 2 ∧ c.domain ≠ 3)) ↔ (decide (c.factor < 100) || decide (1000 < c.factor) || ((c.domain != 2) && (c.domain != 3))) = true := by simp [or_assoc]
  have h2 : (c.s0.v6 = true ∨ rightA c.s0 = false ∨ (c.s1 ≠ zA ∧ c.s1.v6 = false)) ↔ (c.s0.v6 || !rightA c.s0 || (!decide (c.s1 = zA) && !c.s1.v6)) = true := by simp [or_assoc]
  have h3 : (64 < c.vips.length ∨ 64 < c.views.length) ↔ (decide ((64 : Int) < (c.vips.length : Int)) || decide ((64 : Int) < (c.views.length : Int))) = true := by simp; omega
  simp only [h1, h2, h3]
set_option maxRecDepth 20000 in
set_option maxHeartbeats 16000000 in
theorem plain_any (c : Cfg) (w : World) (A1 A2 A3 : Option Addr) (k1 k2 k3 : Nat) :
    Calls Tryz.prog 34 #[.agg (cfC c (.slice A1 c.nodes.length k1) (.slice A2 c.vips.length k2) (.slice A3 c.views.length k3))] w fun e w' => e = .returned (.int .i64 (plainF c : Int)) ∧ Below w.heap.size w w' := by
  obtain ⟨X, hX⟩ : ∃ X, plainF c = X := ⟨_, rfl⟩
  rw [hX]
  rw [plainF_tests] at hX
  obtain ⟨n1, hn1⟩ : ∃ n, c.nodes.length = n := ⟨_, rfl⟩
  obtain ⟨n2, hn2⟩ : ∃ n, c.vips.length = n := ⟨_, rfl⟩
  obtain ⟨n3, hn3⟩ : ∃ n, c.views.length = n := ⟨_, rfl⟩
  obtain ⟨F, hF⟩ : ∃ x, c.factor = x := ⟨_, rfl⟩
  obtain ⟨D, hD⟩ : ∃ x, c.domain = x := ⟨_, rfl⟩
  obtain ⟨⟨s0v, s0h, s0l⟩, hs0⟩ : ∃ x, c.s0 = x := ⟨_, rfl⟩
  obtain ⟨⟨s1v, s1h, s1l⟩, hs1⟩ : ∃ x, c.s1 = x := ⟨_, rfl⟩
  unfold cfC
  rw [hn1, hn2, hn3, hF, hD, hs0, hs1]
  rw [hn2, hn3, hF, hD, hs0, hs1] at hX
  dsimp only at hX ⊢
  clear hn1 hn2 hn3 hF hD hs0 hs1
  obtain ⟨w1, hw1⟩ : ∃ w1, w.alloc (.cells #[.slice A1 n1 k1, .slice A2 n2 k2, .slice A3 n3 k3, .int .i64 F, .int .i64 D, .bool s0v, .int .u64 (s0h : Int), .int .u64 (s0l : Int), .bool s1v, .int .u64 (s1h : Int), .int .u64 (s1l : Int)] 34) = w1 := ⟨_, rfl⟩
  have hb1 : Below w.heap.size w w1 := hw1 ▸ (Below.refl _ _).alloc (Nat.le_refl _) _
  have hg1 : w1.heap[w.heap.size]? = some (.cells #[.slice A1 n1 k1, .slice A2 n2 k2, .slice A3 n3 k3, .int .i64 F, .int .i64 D, .bool s0v, .int .u64 (s0h : Int), .int .u64 (s0l : Int), .bool s1v, .int .u64 (s1h : Int), .int .u64 (s1l : Int)] 34 (0, 0)) := hw1 ▸ blk_new _ _ _
  have hz1 := lt_of_blk hg1
  have qA := fun w => Addr05.Right_any s0v s0h s0l w
  rw [rightA_is ⟨s0v, s0h, s0l⟩] at qA
  replace hb1 := hide hb1
  replace hg1 := hide hg1
  replace hX := hide hX
  replace qA := hide qA
  go_enter Tryz.func34, Tryz.ntmps34
  go_upto_region 1 with fail
  clear hw1
  apply wp_region_lit
  iterate 1 (refine wpList_plain rfl fun K hK => ?_; go_simp; refine hK _ _ ?_; clear hK K)
  refine wpl_new rfl rfl 31 _ (alloc_adr _ rfl) 3 rfl (.tmp 4) rfl _ (fun _ => rfl) (fun _ => rfl) rfl (by kernel_rfl) (adr_one false 0 0) ?_
  intro w2 hg2 hb2 hz2
  refine wpList_nil ?_
  go_simp
  have hB := hb1.out.trans (hb2.mono (by omega))
  have hgc := blk_below hb2 hz1 hg1.out
  have z2 := lt_of_blk hgc
  have e1 := blk_cell hgc 1
  have e2 := blk_cell hgc 2
  have e3 := blk_cell hgc 3
  have e4 := blk_cell hgc 4
  have e5 := blk_cell hgc 5
  have e6 := blk_cell hgc 6
  have e7 := blk_cell hgc 7
  obtain ⟨bf1, hbf1⟩ : ∃ b, decide (F < 100) = b := ⟨_, rfl⟩
  obtain ⟨bf2, hbf2⟩ : ∃ b, decide (1000 < F) = b := ⟨_, rfl⟩
  obtain ⟨d2, hd2⟩ : ∃ b, (D != 2) = b := ⟨_, rfl⟩
  obtain ⟨d3, hd3⟩ : ∃ b, (D != 3) = b := ⟨_, rfl⟩
  obtain ⟨P1, hP1⟩ : ∃ b, (bf1 || bf2 || (d2 && d3)) = b := ⟨_, rfl⟩
  have hX1 := hX.out
  rw [hbf1, hbf2, hd2, hd3, hP1] at hX1
  clear hX hb1 hb2 hg1
  have hs2 : w.heap.size < w1.heap.size := hz1
  replace hX1 := hide hX1
  replace hB := hide hB
  replace hgc := hide hgc
  replace hg2 := hide hg2
  go_upto_region 2 with fail
  go_cut [5] (fun bv wx => bv = .bool P1 ∧ w2 = wx)
  case first =>
    clear hX1 qA e1 e2 e5 e6 e7
    cases bf1
    · cases bf2
      · cases d2
        · obtain rfl : false = P1 := hP1
          go_wp2_with fail
          go_meet
          exact ⟨rfl, rfl⟩
        · obtain rfl : d3 = P1 := hP1
          go_wp2_with fail
          go_meet
          exact ⟨rfl, rfl⟩
      · obtain rfl : true = P1 := hP1
        go_wp2_with fail
        go_meet
        exact ⟨rfl, rfl⟩
    · obtain rfl : true = P1 := by rw [← hP1]; rfl
      go_wp2_with fail
      go_meet
      exact ⟨rfl, rfl⟩
  case rest =>
  obtain ⟨rfl, rfl⟩ := hcut
  have hX2 := hX1.out
  clear hX1 hP1 hbf1 hbf2 hd2 hd3 e3 e4
  cases P1
  case true =>
    obtain rfl : 5 = X := hX2
    go_wp2_with fail
    go_ret
    exact ⟨rfl, hB.out⟩
  case false =>
  rw [if_neg (by decide)] at hX2
  obtain ⟨R0, hR0⟩ : ∃ b, rightA ⟨s0v, s0h, s0l⟩ = b := ⟨_, rfl⟩
  obtain ⟨Z, hZ⟩ : ∃ b, decide ((⟨s1v, s1h, s1l⟩ : Adr) = zA) = b := ⟨_, rfl⟩
  obtain ⟨P2, hP2⟩ : ∃ b, (s0v || !R0 || (!Z && !s1v)) = b := ⟨_, rfl⟩
  have q := qA.out w2
  rw [hR0] at q hX2
  rw [hZ, hP2] at hX2
  clear qA hR0
  replace q := hide q
  replace hX2 := hide hX2
  have hgz := hg2
  go_upto_region 4 with fail
  go_cut [24] (fun bv wx => bv = .bool P2 ∧ Below w2.heap.size w2 wx)
  case first =>
    clear hX2 e1 e2
    cases s0v
    case true =>
      obtain rfl : true = P2 := by rw [← hP2]; rfl
      go_wp2_with fail
      go_meet
      exact ⟨rfl, Below.refl _ _⟩
    case false =>
    go_wp2_with fail
    refine (q.out).mono ?_
    rintro e w3 ⟨rfl, hb3⟩
    have hg3 := blk_below hb3 z2 hgc.out
    have hgz3 := blk_below hb3 hz2 hg2.out
    have a8 := blk_cell hg3 8
    have a9 := blk_cell hg3 9
    have a10 := blk_cell hg3 10
    have z0 := blk_cell hgz3 0
    have z1 := blk_cell hgz3 1
    have z2' := blk_cell hgz3 2
    clear q hg3 hgz3 e5 e6 e7
    replace hb3 := hide hb3
    cases R0
    · obtain rfl : true = P2 := hP2
      go_wp2_with fail
      go_meet
      exact ⟨rfl, hb3.out⟩
    · cases Z
      · obtain rfl : (!s1v) = P2 := by rw [← hP2]; simp
        have hz0 := of_decide_eq_false hZ
        clear hZ hP2
        cases s1v
        · by_cases hh : s1h = 0
          · subst hh
            have hl0 : ¬ (s1l : Int) = 0 := fun h => hz0 (by rw [show s1l = 0 by omega])
            clear hz0
            go_wp2_with fail
            go_meet
            exact ⟨rfl, hb3.out⟩
          · have hh0 : ¬ (s1h : Int) = 0 := by omega
            clear hz0
            go_wp2_with fail
            go_meet
            exact ⟨rfl, hb3.out⟩
        · clear hz0
          go_wp2_with fail
          go_meet
          exact ⟨rfl, hb3.out⟩
      · obtain rfl : false = P2 := hP2
        have hz0 := of_decide_eq_true hZ
        obtain ⟨rfl, rfl, rfl⟩ : s1v = false ∧ s1h = 0 ∧ s1l = 0 := by cases hz0; exact ⟨rfl, rfl, rfl⟩
        clear hZ hz0
        go_wp2_with fail
        go_meet
        exact ⟨rfl, hb3.out⟩
  case rest =>
  obtain ⟨rfl, hb3⟩ := hcut
  have hX3 := hX2.out
  have hg3 := blk_below hb3 z2 hgc.out
  have e1 := blk_cell hg3 1
  have e2 := blk_cell hg3 2
  have hB3 := hB.out.trans (hb3.mono (by omega))
  clear hX2 hP2 hZ e5 e6 e7 hB hgc hg2 hgz hb3 q hg3
  replace hB3 := hide hB3
  cases P2
  case true =>
    obtain rfl : 18 = X := hX3
    go_wp2_with fail
    go_ret
    exact ⟨rfl, hB3.out⟩
  case false =>
  rw [if_neg (by decide)] at hX3
  obtain ⟨v1, hv1⟩ : ∃ b, decide ((64 : Int) < (n2 : Int)) = b := ⟨_, rfl⟩
  obtain ⟨v2, hv2⟩ : ∃ b, decide ((64 : Int) < (n3 : Int)) = b := ⟨_, rfl⟩
  rw [hv1, hv2] at hX3
  replace hX3 := hide hX3
  go_upto_region 6 with fail
  cases v1
  · cases v2
    · obtain rfl : 0 = X := hX3.out
      clear hX3
      go_wp2_with fail
      go_ret
      exact ⟨rfl, hB3.out⟩
    · obtain rfl : 6 = X := hX3.out
      clear hX3
      go_wp2_with fail
      go_ret
      exact ⟨rfl, hB3.out⟩
  · obtain rfl : 6 = X := hX3.out
    clear hX3
    go_wp2_with fail
    go_ret
    exact ⟨rfl, hB3.out⟩
end Val19
end Go.Proofs.YtcpokkkdmenmgaaGreatDoor
/- conf, the law: awake. Condition: the cell of bytealg.MaxLen. -/
namespace Go.Proofs.YtcpokkkdmenmgaaGreatDoor
open Go.RowKit Go.ChangeShapes Go.WideShapes Go.ChangeAt Go.Deep
namespace Conf18
open Addr05
theorem alloc_cf (o : Oper) (h : o.op = .alloc 34) (ρ : Operand → Value) (w : World) : (execOp ρ o).run Tryz.prog w = .ok (.value (.pointer (some ⟨w.heap.size, 0, none⟩))) (w.alloc (.cells #[.slice none 0 0, .slice none 0 0, .slice none 0 0, .int .i64 0, .int .i64 0, .bool false, .int .u64 0, .int .u64 0, .bool false, .int .u64 0, .int .u64 0] 34)) := by
  obtain ⟨d, op, t, ps, af, g⟩ := o
  dsimp only at h
  subst h
  kernel_rfl
theorem exA_err : confF exA = .error (1, 5) := by
  have h := exA_is
  rcases hc : confF exA with p | c
  · rw [hc] at h
    obtain ⟨a, b⟩ := p
    obtain ⟨h1, h2⟩ := of_decide_eq_true h
    dsimp only at h1 h2
    rw [h1, h2]
  · rw [hc] at h; cases h
theorem exB_ok : ∃ c, confF exB = .ok c ∧ c.nodes.length = 4 ∧ (∃ nd, c.nodes[3]? = some nd ∧ nd.above = 2) ∧ c.factor = 140 := by
  have h := exB_is
  rcases hc : confF exB with p | c
  · rw [hc] at h; cases h
  · rw [hc] at h
    obtain ⟨h1, h2, h3⟩ := of_decide_eq_true h
    refine ⟨c, rfl, h1, ⟨c.nodes[3], List.getElem?_eq_getElem (by omega), ?_⟩, h3⟩
    rw [List.getD_eq_getElem?_getD, List.getElem?_eq_getElem (by omega)] at h2
    exact h2
end Conf18
end Go.Proofs.YtcpokkkdmenmgaaGreatDoor
/- valid: copyOf: a configuration of its own. Condition: fewer than 4096 of each list. -/
namespace Go.Proofs.YtcpokkkdmenmgaaGreatDoor
open Go.RowKit Go.ChangeShapes Go.WideShapes Go.ChangeAt Go.Deep
namespace Val19
open Conf18 (Nd Vp Vw Cfg zA ndC vpC vwC cfC CfgR CfgV lt_of_blk isRel_below info_nd info_vp info_vw ndC_one vpC_one vwC_one row_set alloc_cf cf_one)
open Addr05 (Adr)
theorem flat_one {α : Type} (f : α → List Value) (h : ∀ x, ∀ u ∈ f x, u.oneCell' = true) (l : List α) : ∀ u ∈ (l.map f).flatten, u.oneCell' = true := by
  intro u hu
  obtain ⟨r, hr, hu⟩ := List.mem_flatten.1 hu
  obtain ⟨x, -, rfl⟩ := List.mem_map.1 hr
  exact h x u hu
set_option maxRecDepth 20000 in
set_option maxHeartbeats 16000000 in
theorem copyOf_any (c : Cfg) (hs : c.small 4096) (w : World) (A1 A2 A3 : Option Addr) (k1 k2 k3 : Nat) (h : CfgR w w.heap.size c A1 A2 A3 k1 k2 k3) :
    Calls Tryz.prog 40 #[.agg (cfC c (.slice A1 c.nodes.length k1) (.slice A2 c.vips.length k2) (.slice A3 c.views.length k3))] w fun e w' => ∃ v, e = .returned (.agg v) ∧ CfgV w' w.heap.size c v ∧ Below w.heap.size w w' := by
  obtain ⟨hs1, hs2, hs3⟩ := hs
  obtain ⟨p1, p2, p3⟩ := h
  unfold cfC
  obtain ⟨w1, hw1⟩ : ∃ w1, w.alloc (.cells #[.slice A1 c.nodes.length k1, .slice A2 c.vips.length k2, .slice A3 c.views.length k3, .int .i64 c.factor, .int .i64 c.domain, .bool c.s0.v6, .int .u64 (c.s0.hi : Int), .int .u64 (c.s0.lo : Int), .bool c.s1.v6, .int .u64 (c.s1.hi : Int), .int .u64 (c.s1.lo : Int)] 34) = w1 := ⟨_, rfl⟩
  have hb1 : Below w.heap.size w w1 := hw1 ▸ (Below.refl _ _).alloc (Nat.le_refl _) _
  have hg1 : w1.heap[w.heap.size]? = some (.cells #[.slice A1 c.nodes.length k1, .slice A2 c.vips.length k2, .slice A3 c.views.length k3, .int .i64 c.factor, .int .i64 c.domain, .bool c.s0.v6, .int .u64 (c.s0.hi : Int), .int .u64 (c.s0.lo : Int), .bool c.s1.v6, .int .u64 (c.s1.hi : Int), .int .u64 (c.s1.lo : Int)] 34 (0, 0)) := hw1 ▸ blk_new _ _ _
  have hz1 := lt_of_blk hg1
  obtain ⟨w2, hw2⟩ : ∃ w2, w1.alloc (.cells #[.slice none 0 0, .slice none 0 0, .slice none 0 0, .int .i64 0, .int .i64 0, .bool false, .int .u64 0, .int .u64 0, .bool false, .int .u64 0, .int .u64 0] 34) = w2 := ⟨_, rfl⟩
  have hb2 : Below w1.heap.size w1 w2 := hw2 ▸ (Below.refl _ _).alloc (Nat.le_refl _) _
  have hg2 : w2.heap[w1.heap.size]? = some (.cells #[.slice none 0 0, .slice none 0 0, .slice none 0 0, .int .i64 0, .int .i64 0, .bool false, .int .u64 0, .int .u64 0, .bool false, .int .u64 0, .int .u64 0] 34 (0, 0)) := hw2 ▸ blk_new _ _ _
  have hz2 := lt_of_blk hg2
  have hgA := blk_below hb2 hz1 hg1
  have hB := hb1.trans (hb2.mono hb1.size)
  obtain ⟨z, hz⟩ : ∃ z, w.heap.size = z := ⟨_, rfl⟩
  obtain ⟨z2, hz2'⟩ : ∃ z, w1.heap.size = z := ⟨_, rfl⟩
  rw [hz] at hgA hz1
  rw [hz2'] at hg2 hz1 hz2
  obtain ⟨i1, hi1, hy1, hsz1, hbt1⟩ := info_parts info_nd
  obtain ⟨i2, hi2, hy2, hsz2, hbt2⟩ := info_parts info_vp
  obtain ⟨i3, hi3, hy3, hsz3, hbt3⟩ := info_parts info_vw
  clear hb1 hb2 hg1
  replace hB := hide hB
  replace hgA := hide hgA
  replace hg2 := hide hg2
  replace p1 := hide p1
  replace p2 := hide p2
  replace p3 := hide p3
  go_enter Tryz.func40, Tryz.ntmps40
  go_upto_region 1 with fail
  clear hw1 hw2
  have hc := blk_cell hgA.out 0
  apply wp_region_lit
  iterate 2 (refine wpList_plain rfl fun K hK => ?_; go_simp; refine hK _ _ ?_; clear hK K)
  clear hc
  refine wpl_append _ rfl (.const (.slice none 0 0)) (.tmp 4) 26 rfl w.heap.size 68 i1 _ 7 64 Tryz.underlying26 hi1 hy1 hsz1 hbt1 rfl (by decide) (.slice none 0 0) 0 [] rfl (World.ownsRow_nil _ _ _ _) w.heap.size A1 c.nodes.length k1 _ rfl (p1.out.below hB.out).2 (flat_one ndC ndC_one _) (by unfold maxLen; omega) (by omega) hB.out.size fun v w3 q1 q2 q3 => ?_
  rw [Nat.zero_add, List.nil_append] at q1
  obtain ⟨B1, j1, hv, -, -, -⟩ := own_isv q1
  subst hv
  have hgA3 := (q2.block z (lt_of_blk hgA.out) (by intro e; cases e)).trans hgA.out
  have hg23 := (q2.block z2 (lt_of_blk hg2.out) (by intro e; cases e)).trans hg2.out
  have hB3 := hB.out.trans (below_of_grown q2 hB.out.size (fun k hk => by cases hk))
  clear q2 q3
  have hc := blk_cell hgA3 0
  have hf := blk_free hgA3 0
  obtain ⟨wb0, hwb⟩ : ∃ w4, w3.setCell ⟨z, 0, none⟩ (.slice B1 c.nodes.length j1) = w4 := ⟨_, rfl⟩
  have hgAb0 := hwb ▸ blk_set hgA3 0 (.slice B1 c.nodes.length j1)
  have hg2b0 : wb0.heap[z2]? = some (.cells #[.slice none 0 0, .slice none 0 0, .slice none 0 0, .int .i64 0, .int .i64 0, .bool false, .int .u64 0, .int .u64 0, .bool false, .int .u64 0, .int .u64 0] 34 (0, 0)) := by
    obtain ⟨wq, g1, -, g3⟩ := store_cell hgA3 0 (.slice B1 c.nodes.length j1)
    rw [← hwb, g1]
    exact grown_other g3 (lt_of_blk hg23) (by omega) hg23
  have hBb0 : Below w.heap.size w wb0 := hwb ▸ hB3.setCell (p := ⟨z, 0, none⟩) (by dsimp only; omega) _
  have hn0 := hwb ▸ row_set q1 hgA3 (by decide) 0 (.slice B1 c.nodes.length j1)
  clear q1 hg23 hB3 hB hgA hg2
  have ho0 := hide hn0
  clear hn0
  replace hgAb0 := hide hgAb0
  replace hg2b0 := hide hg2b0
  replace hBb0 := hide hBb0
  iterate 2 (refine wpList_plain rfl fun K hK => ?_; go_simp; refine hK _ _ ?_; clear hK K)
  refine wpList_nil ?_
  go_simp
  clear hc hf hwb hgA3
  go_upto_region 2 with fail
  have hc := blk_cell hgAb0.out 1
  apply wp_region_lit
  iterate 2 (refine wpList_plain rfl fun K hK => ?_; go_simp; refine hK _ _ ?_; clear hK K)
  clear hc
  refine wpl_append _ rfl (.const (.slice none 0 0)) (.tmp 8) 27 rfl w.heap.size 70 i2 _ 7 56 Tryz.underlying27 hi2 hy2 hsz2 hbt2 rfl (by decide) (.slice none 0 0) 0 [] rfl (World.ownsRow_nil _ _ _ _) w.heap.size A2 c.vips.length k2 _ rfl (p2.out.below hBb0.out).2 (flat_one vpC vpC_one _) (by unfold maxLen; omega) (by omega) hBb0.out.size fun v w3 q1 q2 q3 => ?_
  rw [Nat.zero_add, List.nil_append] at q1
  obtain ⟨B2, j2, hv, -, -, -⟩ := own_isv q1
  subst hv
  have hgA3 := (q2.block z (lt_of_blk hgAb0.out) (by intro e; cases e)).trans hgAb0.out
  have hg23 := (q2.block z2 (lt_of_blk hg2b0.out) (by intro e; cases e)).trans hg2b0.out
  have hB3 := hBb0.out.trans (below_of_grown q2 hBb0.out.size (fun k hk => by cases hk))
  have ho03 := World.ownsRow.kept ho0.out q2 (by cases B1 with | none => exact .inl rfl | some a => exact .inr (by intro e; cases e))
  clear q2 q3
  have hc := blk_cell hgA3 1
  have hf := blk_free hgA3 1
  obtain ⟨wb1, hwb⟩ : ∃ w4, w3.setCell ⟨z, 1, none⟩ (.slice B2 c.vips.length j2) = w4 := ⟨_, rfl⟩
  have hgAb1 := hwb ▸ blk_set hgA3 1 (.slice B2 c.vips.length j2)
  have hg2b1 : wb1.heap[z2]? = some (.cells #[.slice none 0 0, .slice none 0 0, .slice none 0 0, .int .i64 0, .int .i64 0, .bool false, .int .u64 0, .int .u64 0, .bool false, .int .u64 0, .int .u64 0] 34 (0, 0)) := by
    obtain ⟨wq, g1, -, g3⟩ := store_cell hgA3 1 (.slice B2 c.vips.length j2)
    rw [← hwb, g1]
    exact grown_other g3 (lt_of_blk hg23) (by omega) hg23
  have hBb1 : Below w.heap.size w wb1 := hwb ▸ hB3.setCell (p := ⟨z, 1, none⟩) (by dsimp only; omega) _
  have hn1 := hwb ▸ row_set q1 hgA3 (by decide) 1 (.slice B2 c.vips.length j2)
  have hn0 := hwb ▸ row_set ho03 hgA3 (by decide) 1 (.slice B2 c.vips.length j2)
  clear q1 hg23 hB3 ho03 hBb0 hgAb0 hg2b0 ho0
  have ho0 := hide hn0
  clear hn0
  have ho1 := hide hn1
  clear hn1
  replace hgAb1 := hide hgAb1
  replace hg2b1 := hide hg2b1
  replace hBb1 := hide hBb1
  iterate 2 (refine wpList_plain rfl fun K hK => ?_; go_simp; refine hK _ _ ?_; clear hK K)
  refine wpList_nil ?_
  go_simp
  clear hc hf hwb hgA3
  go_upto_region 3 with fail
  have hc := blk_cell hgAb1.out 2
  apply wp_region_lit
  iterate 2 (refine wpList_plain rfl fun K hK => ?_; go_simp; refine hK _ _ ?_; clear hK K)
  clear hc
  refine wpl_append _ rfl (.const (.slice none 0 0)) (.tmp 12) 28 rfl w.heap.size 74 i3 _ 5 40 Tryz.underlying28 hi3 hy3 hsz3 hbt3 rfl (by decide) (.slice none 0 0) 0 [] rfl (World.ownsRow_nil _ _ _ _) w.heap.size A3 c.views.length k3 _ rfl (p3.out.below hBb1.out).2 (flat_one vwC vwC_one _) (by unfold maxLen; omega) (by omega) hBb1.out.size fun v w3 q1 q2 q3 => ?_
  rw [Nat.zero_add, List.nil_append] at q1
  obtain ⟨B3, j3, hv, -, -, -⟩ := own_isv q1
  subst hv
  have hgA3 := (q2.block z (lt_of_blk hgAb1.out) (by intro e; cases e)).trans hgAb1.out
  have hg23 := (q2.block z2 (lt_of_blk hg2b1.out) (by intro e; cases e)).trans hg2b1.out
  have hB3 := hBb1.out.trans (below_of_grown q2 hBb1.out.size (fun k hk => by cases hk))
  have ho03 := World.ownsRow.kept ho0.out q2 (by cases B1 with | none => exact .inl rfl | some a => exact .inr (by intro e; cases e))
  have ho13 := World.ownsRow.kept ho1.out q2 (by cases B2 with | none => exact .inl rfl | some a => exact .inr (by intro e; cases e))
  clear q2 q3
  have hc := blk_cell hgA3 2
  have hf := blk_free hgA3 2
  obtain ⟨wb2, hwb⟩ : ∃ w4, w3.setCell ⟨z, 2, none⟩ (.slice B3 c.views.length j3) = w4 := ⟨_, rfl⟩
  have hgAb2 := hwb ▸ blk_set hgA3 2 (.slice B3 c.views.length j3)
  have hg2b2 : wb2.heap[z2]? = some (.cells #[.slice none 0 0, .slice none 0 0, .slice none 0 0, .int .i64 0, .int .i64 0, .bool false, .int .u64 0, .int .u64 0, .bool false, .int .u64 0, .int .u64 0] 34 (0, 0)) := by
    obtain ⟨wq, g1, -, g3⟩ := store_cell hgA3 2 (.slice B3 c.views.length j3)
    rw [← hwb, g1]
    exact grown_other g3 (lt_of_blk hg23) (by omega) hg23
  have hBb2 : Below w.heap.size w wb2 := hwb ▸ hB3.setCell (p := ⟨z, 2, none⟩) (by dsimp only; omega) _
  have hn2 := hwb ▸ row_set q1 hgA3 (by decide) 2 (.slice B3 c.views.length j3)
  have hn0 := hwb ▸ row_set ho03 hgA3 (by decide) 2 (.slice B3 c.views.length j3)
  have hn1 := hwb ▸ row_set ho13 hgA3 (by decide) 2 (.slice B3 c.views.length j3)
  clear q1 hg23 hB3 ho03 ho13 hBb1 hgAb1 hg2b1 ho0 ho1
  have ho0 := hide hn0
  clear hn0
  have ho1 := hide hn1
  clear hn1
  have ho2 := hide hn2
  clear hn2
  replace hgAb2 := hide hgAb2
  replace hg2b2 := hide hg2b2
  replace hBb2 := hide hBb2
  iterate 2 (refine wpList_plain rfl fun K hK => ?_; go_simp; refine hK _ _ ?_; clear hK K)
  refine wpList_nil ?_
  go_simp
  clear hc hf hwb hgA3
  go_upto_region 4 with fail
  apply wp_region_lit
  refine wpList_load_mid rfl 34 (.tmp 1) rfl z 0 rfl _ _ (blk_range hgAb2.out) Tryz.underlying34 rfl (by kernel_rfl) ?_
  simp only [Array.toArray_toList]
  refine wpl_st rfl 34 (.tmp 2) (.tmp 15) rfl z2 0 rfl (cfC c (.slice B1 c.nodes.length j1) (.slice B2 c.vips.length j2) (.slice B3 c.views.length j3)) rfl hg2b2.out (Nat.le_refl 11) (by kernel_rfl) (cf_one _ _ _ rfl rfl rfl _ _ _ _ _ _ _ _) fun w9 hg9 g9 => ?_
  rw [putA_whole _ _ (by rfl)] at hg9
  have hb9 : Below w.heap.size w w9 := hBb2.out.trans (below_grown g9 hBb2.out.size (by omega))
  have hv : CfgV w9 w.heap.size c (cfC c (.slice B1 c.nodes.length j1) (.slice B2 c.vips.length j2) (.slice B3 c.views.length j3)) :=
    ⟨World.ownsRow.kept ho0.out g9 (Conf18.row_not_x ho0.out hg2b2.out (by decide)), World.ownsRow.kept ho1.out g9 (Conf18.row_not_x ho1.out hg2b2.out (by decide)), World.ownsRow.kept ho2.out g9 (Conf18.row_not_x ho2.out hg2b2.out (by decide)), rfl⟩
  have hld : (loadVar 34 ⟨z2, 0, none⟩).run Tryz.prog w9 = .ok (.agg (cfC c (.slice B1 c.nodes.length j1) (.slice B2 c.vips.length j2) (.slice B3 c.views.length j3))) w9 := by
    simpa using run_loadVar_mid w9 z2 0 34 (cfC c (.slice B1 c.nodes.length j1) (.slice B2 c.vips.length j2) (.slice B3 c.views.length j3)).toList _ (blk_range hg9) Tryz.underlying34 rfl (by kernel_rfl)
  clear hg9 g9
  replace hld := hide hld
  replace hb9 := hide hb9
  replace hv := hide hv
  refine wpList_nil ?_
  go_simp
  go_wp2_with fail
  exact bodyPost_ret (v := .agg (cfC c (.slice B1 c.nodes.length j1) (.slice B2 c.vips.length j2) (.slice B3 c.views.length j3))) (by simp [results, Tryz.results40, asAddr, hld.out]) rfl ⟨_, rfl, hv.out, hb9.out⟩
end Val19
end Go.Proofs.YtcpokkkdmenmgaaGreatDoor
/- tree: a tree in memory, between the steps of put. No condition. -/
namespace Go.Proofs.YtcpokkkdmenmgaaGreatDoor
open Go.RowKit Go.ChangeShapes Go.WideShapes Go.ChangeAt Go.Deep
namespace Tree16
open Conf18 (Nd ndC lt_of_blk row_set row_not_x)
theorem set_take {α : Type} (l : List α) (n i : Nat) (u : α) : (l.set i u).take n = (l.take n).set i u := by
  rw [List.take_set]
/-- A cell of a row of the call's own is told otherwise. -/
theorem row_upd {w : World} {base : Nat} {e : TypeId} {v : Value} {n : Nat} {xs : List Value} (h : w.ownsRow base e 1 v n xs) {i : Nat} (hi : i < n) (u : Value) :
    ∃ g cap cur, v = .slice (some ⟨g, 0, none⟩) n cap ∧ base ≤ g ∧ n ≤ cap ∧ cap ≤ maxLen ∧ w.heap[g]? = some (.cells cur e (0, 0)) ∧ i < cur.size ∧ (w.setCell ⟨g, i, none⟩ u).ownsRow base e 1 v n (xs.set i u) ∧ xs[i]? = cur[i]? := by
  obtain ⟨hl, ⟨-, h0⟩ | ⟨g, cap, cur, hv, hg, hh, h1, h2, h3, h4⟩⟩ := h
  · omega
  · refine ⟨g, cap, cur, hv, hg, h1, h2, hh, by omega, ⟨by rw [List.length_set]; exact hl, .inr ⟨g, cap, cur.setIfInBounds i u, hv, hg, blk_set hh i u, h1, h2, by rw [Array.size_setIfInBounds]; exact h3, ?_⟩⟩, ?_⟩
    · rw [Array.toList_setIfInBounds, set_take, h4]
    · rw [← h4, List.getElem?_take, if_pos (by omega), Array.getElem?_toList]
structure TreeM (w : World) (base x : Nat) (ns : List Nd) (nv kv tv hv : Value) (us : List Value) (xs : List (List Int)) : Prop where
  blk : w.heap[x]? = some (.cells #[nv, kv, tv, hv] 90 (0, 0))
  hx : base ≤ x
  nodes : w.ownsRow base 68 7 nv ns.length (ns.map ndC).flatten
  kids : w.ownsRow base 88 1 kv us.length us
  rows : Rows w base (tv :: hv :: us) xs
section
variable {w w' : World} {base x : Nat} {ns : List Nd} {nv kv tv hv nv' kv' tv' hv' : Value} {us : List Value} {xs : List (List Int)}
theorem TreeM.on (h : TreeM w base x ns nv kv tv hv us xs) (hb : Below w.heap.size w w') : TreeM w' base x ns nv kv tv hv us xs :=
  ⟨(hb.block x (lt_of_blk h.blk)).trans h.blk, h.hx, row_on h.nodes hb, row_on h.kids hb, h.rows.on hb⟩
theorem Rows.set_x {vs : List Value} (h : Rows w base vs xs) {cs : Array Value} {T : TypeId} (hx : w.heap[x]? = some (.cells cs T (0, 0))) (hT : T ≠ 3) (i : Nat) (u : Value) : Rows (w.setCell ⟨x, i, none⟩ u) base vs xs :=
  ⟨h.len, fun j v y h1 h2 => row_set (h.own j v y h1 h2) hx hT i u, h.apart⟩
theorem Rows.other {vs : List Value} (h : Rows w base vs xs) {v : Value} {e : TypeId} {size n : Nat} {ys : List Value} (ho : w.ownsRow base e size v n ys) (he : 3 ≠ e) (hg : w.grownBy w' v.ownBlock) : Rows w' base vs xs := by
  refine ⟨h.len, fun j u y h1 h2 => World.ownsRow.kept (h.own j u y h1 h2) hg (rows_apart (h.own j u y h1 h2) ho he), h.apart⟩
theorem blk_kept {v : Value} {e : TypeId} {size n : Nat} {ys : List Value} {cs : Array Value} {T : TypeId} (hx : w.heap[x]? = some (.cells cs T (0, 0))) (ho : w.ownsRow base e size v n ys) (he : T ≠ e) (hg : w.grownBy w' v.ownBlock) : w'.heap[x]? = some (.cells cs T (0, 0)) := by
  refine (hg.block x (lt_of_blk hx) ?_).trans hx
  rcases row_not_x ho hx he with h3 | h3
  · rw [h3]; intro e; cases e
  · intro e; exact h3 e.symm
theorem TreeM.pushN {n : Nd} (h : TreeM w base x ns nv kv tv hv us xs) (h1 : w'.ownsRow base 68 7 nv' (ns.length + 1) ((ns.map ndC).flatten ++ ndC n)) (h2 : Grew w nv w' nv') :
    w'.heap[x]? = some (.cells #[nv, kv, tv, hv] 90 (0, 0)) ∧ TreeM (w'.setCell ⟨x, 0, none⟩ nv') base x (ns ++ [n]) nv' kv tv hv us xs := by
  have hb := blk_kept h.blk h.nodes (by decide) h2.grown
  have k1 := World.ownsRow.kept h.kids h2.grown (rows_apart h.kids h.nodes (by decide))
  have k2 := h.rows.other h.nodes (by decide) h2.grown
  refine ⟨hb, blk_set hb 0 nv', h.hx, ?_, row_set k1 hb (by decide) 0 nv', k2.set_x hb (by decide) 0 nv'⟩
  have h3 := row_set h1 hb (by decide) 0 nv'
  simpa [List.length_append] using h3
theorem TreeM.pushK (h : TreeM w base x ns nv kv tv hv us xs) (h1 : w'.ownsRow base 88 1 kv' (us.length + 1) (us ++ [.slice none 0 0])) (h2 : Grew w kv w' kv') :
    w'.heap[x]? = some (.cells #[nv, kv, tv, hv] 90 (0, 0)) ∧ TreeM (w'.setCell ⟨x, 1, none⟩ kv') base x ns nv kv' tv hv (us ++ [.slice none 0 0]) (xs ++ [[]]) := by
  have hb := blk_kept h.blk h.kids (by decide) h2.grown
  have k1 := World.ownsRow.kept h.nodes h2.grown (rows_apart h.nodes h.kids (by decide))
  have k2 := (h.rows.other h.kids (by decide) h2.grown).more
  refine ⟨hb, blk_set hb 1 kv', h.hx, row_set k1 hb (by decide) 1 kv', ?_, k2.set_x hb (by decide) 1 kv'⟩
  have h3 := row_set h1 hb (by decide) 1 kv'
  simpa [List.length_append] using h3
theorem TreeM.growT {y : List Int} {m : Int} (h : TreeM w base x ns nv kv tv hv us (y :: xs)) (h1 : w'.ownsRow base 3 1 tv' (y.length + 1) (y.map intv ++ [intv m])) (h2 : Grew w tv w' tv') :
    w'.heap[x]? = some (.cells #[nv, kv, tv, hv] 90 (0, 0)) ∧ TreeM (w'.setCell ⟨x, 2, none⟩ tv') base x ns nv kv tv' hv us ((y ++ [m]) :: xs) := by
  have ho := h.rows.own 0 tv y rfl rfl
  have hb := blk_kept h.blk ho (by decide) h2.grown
  have k1 := World.ownsRow.kept h.nodes h2.grown (rows_apart h.nodes ho (by decide))
  have k2 := World.ownsRow.kept h.kids h2.grown (rows_apart h.kids ho (by decide))
  have k3 := h.rows.grow (i := 0) (x' := y ++ [m]) rfl rfl (by rw [List.length_append, List.length_singleton, List.map_append]; exact h1) h2
  exact ⟨hb, blk_set hb 2 tv', h.hx, row_set k1 hb (by decide) 2 tv', row_set k2 hb (by decide) 2 tv', Rows.set_x k3 hb (by decide) 2 tv'⟩
theorem TreeM.growH {z y : List Int} {m : Int} (h : TreeM w base x ns nv kv tv hv us (z :: y :: xs)) (h1 : w'.ownsRow base 3 1 hv' (y.length + 1) (y.map intv ++ [intv m])) (h2 : Grew w hv w' hv') :
    w'.heap[x]? = some (.cells #[nv, kv, tv, hv] 90 (0, 0)) ∧ TreeM (w'.setCell ⟨x, 3, none⟩ hv') base x ns nv kv tv hv' us (z :: (y ++ [m]) :: xs) := by
  have ho := h.rows.own 1 hv y rfl rfl
  have hb := blk_kept h.blk ho (by decide) h2.grown
  have k1 := World.ownsRow.kept h.nodes h2.grown (rows_apart h.nodes ho (by decide))
  have k2 := World.ownsRow.kept h.kids h2.grown (rows_apart h.kids ho (by decide))
  have k3 := h.rows.grow (i := 1) (x' := y ++ [m]) rfl rfl (by rw [List.length_append, List.length_singleton, List.map_append]; exact h1) h2
  exact ⟨hb, blk_set hb 3 hv', h.hx, row_set k1 hb (by decide) 3 hv', row_set k2 hb (by decide) 3 hv', Rows.set_x k3 hb (by decide) 3 hv'⟩
/-- The row of the nodes below one grows. -/
theorem TreeM.growK {y : List Int} {m : Int} {a : Nat} {v v' : Value} (h : TreeM w base x ns nv kv tv hv us xs) (hv1 : us[a]? = some v) (hx1 : xs[a + 2]? = some y) (h1 : w'.ownsRow base 3 1 v' (y.length + 1) (y.map intv ++ [intv m])) (h2 : Grew w v w' v') :
    ∃ g cap cur, kv = .slice (some ⟨g, 0, none⟩) us.length cap ∧ base ≤ g ∧ w'.heap[g]? = some (.cells cur 88 (0, 0)) ∧ cur[a]? = some v ∧ TreeM (w'.setCell ⟨g, a, none⟩ v') base x ns nv kv tv hv (us.set a v') (xs.set (a + 2) (y ++ [m])) := by
  have ho := h.rows.own (a + 2) v y hv1 hx1
  have hb := blk_kept h.blk ho (by decide) h2.grown
  have k1 := World.ownsRow.kept h.nodes h2.grown (rows_apart h.nodes ho (by decide))
  have k2 := World.ownsRow.kept h.kids h2.grown (rows_apart h.kids ho (by decide))
  have k3 := h.rows.grow (i := a + 2) (x' := y ++ [m]) hv1 hx1 (by rw [List.length_append, List.length_singleton, List.map_append]; exact h1) h2
  have ha := (List.getElem?_eq_some_iff.1 hv1).1
  obtain ⟨g, cap, cur, e1, e2, -, -, e3, e4, e5, e6⟩ := row_upd k2 ha v'
  refine ⟨g, cap, cur, e1, e2, e3, by rw [← e6]; exact hv1, ?_⟩
  have hxg : x ≠ g := by
    rintro rfl
    rw [hb] at e3
    simp at e3
  refine ⟨?_, h.hx, row_set k1 e3 (by decide) a v', by rw [List.length_set]; exact e5, ?_⟩
  · obtain ⟨w2, g1, g2, g3⟩ := store_cell e3 a v'
    rw [g1]
    exact grown_other g3 (lt_of_blk hb) hxg hb
  · exact Rows.set_x k3 e3 (by decide) a v'
end
end Tree16
end Go.Proofs.YtcpokkkdmenmgaaGreatDoor
/- tree: put: one node more. Condition: fewer than 1024 nodes. -/
namespace Go.Proofs.YtcpokkkdmenmgaaGreatDoor
open Go.RowKit Go.ChangeShapes Go.WideShapes Go.ChangeAt Go.Deep
namespace Tree16
open Conf18 (Nd ndC lt_of_blk row_set row_not_x info_nd ndC_one)
theorem info_ints : (Tryz.prog.info? 88).map (fun i => (i.zero, i.size, i.bytes)) = some (some (.slice none 0 0), 1, 24) := by kernel_rfl
theorem info_int : (Tryz.prog.info? 3).map (fun i => (i.zero, i.size, i.bytes)) = some (some (.int .i64 0), 1, 8) := by kernel_rfl
theorem kids_more (ns : List Nd) (n : Nd) (hs : ∀ m ∈ ns, m.above < (ns.length : Int)) (_hn : n.above < (ns.length : Int)) :
    (List.range (ns ++ [n]).length).map (kidsF (ns ++ [n])) = if 0 ≤ n.above then ((List.range ns.length).map (kidsF ns) ++ [[]]).set n.above.toNat (kidsF ns n.above.toNat ++ [(ns.length : Int)]) else (List.range ns.length).map (kidsF ns) ++ [[]] := by
  have e1 : ∀ i : Nat, kidsF (ns ++ [n]) i = if n.above = (i : Int) then kidsF ns i ++ [(ns.length : Int)] else kidsF ns i := by
    intro i
    unfold kidsF
    rw [placesF_snoc]
    by_cases h : n.above = (i : Int)
    · rw [if_pos h, if_pos (decide_eq_true h)]
    · rw [if_neg h, if_neg (by simpa using h)]
  have e2 : kidsF ns ns.length = [] := by
    unfold kidsF placesF placesN
    rw [List.map_eq_nil_iff, List.filter_eq_nil_iff]
    intro j hj
    have hj2 := List.mem_range.1 hj
    rw [List.getElem?_eq_getElem hj2]
    have := hs _ (List.getElem_mem hj2)
    simp
    omega
  rw [List.length_append, List.length_singleton]
  apply List.ext_getElem?
  intro j
  rw [List.getElem?_map]
  by_cases hj : j < ns.length + 1
  · rw [List.getElem?_range hj]
    have hb : ((List.range ns.length).map (kidsF ns) ++ [[]])[j]? = some (kidsF ns j) := by
      by_cases hj2 : j < ns.length
      · rw [List.getElem?_append_left (by simpa using hj2), List.getElem?_map, List.getElem?_range hj2]; rfl
      · obtain rfl : j = ns.length := by omega
        rw [List.getElem?_append_right (by simp), e2]
        simp
    simp only [Option.map_some, e1]
    by_cases h0 : 0 ≤ n.above
    · rw [if_pos h0]
      by_cases h : n.above = (j : Int)
      · rw [if_pos h, show n.above.toNat = j by omega, List.getElem?_set_self (by simp; omega)]
      · rw [if_neg h, List.getElem?_set_ne (by omega), hb]
    · rw [if_neg h0, if_neg (by omega), hb]
  · rw [List.getElem?_eq_none (by simp; omega)]
    split
    · rw [List.getElem?_eq_none (by simp; omega)]; rfl
    · rw [List.getElem?_eq_none (by simp; omega)]; rfl
theorem top_more (ns : List Nd) (n : Nd) : topF (ns ++ [n]) = if n.kind = 1 then topF ns ++ [(ns.length : Int)] else topF ns := by
  unfold topF
  rw [placesF_snoc]
  by_cases h : n.kind = 1
  · rw [if_pos h, if_pos (decide_eq_true h)]
  · rw [if_neg h, if_neg (by simpa using h)]
theorem hosts_more (ns : List Nd) (n : Nd) : hostsF (ns ++ [n]) = if n.kind = 4 then hostsF ns ++ [(ns.length : Int)] else hostsF ns := by
  unfold hostsF
  rw [placesF_snoc]
  by_cases h : n.kind = 4
  · rw [if_pos h, if_pos (decide_eq_true h)]
  · rw [if_neg h, if_neg (by simpa using h)]
theorem TreeC.toM {w : World} {base x : Nat} {ns : List Nd} {nv kv tv hv : Value} {us : List Value} (h : TreeC w base x ns nv kv tv hv us) : us.length = ns.length ∧ TreeM w base x ns nv kv tv hv us (topF ns :: hostsF ns :: (List.range ns.length).map (kidsF ns)) := by
  have hl : us.length = ns.length := by have := h.kids.1; omega
  exact ⟨hl, h.blk, h.hx, h.nodes, by rw [hl]; exact h.kids, h.rows⟩
set_option maxRecDepth 20000 in
set_option maxHeartbeats 16000000 in
theorem tput_any (n : Nd) (ns : List Nd) (w : World) (base x : Nat) (hT : TreeAt w base x ns) (hlt : ns.length < 1024) (hab : n.above < (ns.length : Int)) (hk : 1 ≤ n.kind ∧ n.kind ≤ 4) :
    Calls Tryz.prog 54 #[.pointer (some ⟨x, 0, none⟩), .agg (ndA n)] w fun e w' => e = .returned (.tuple #[]) ∧ TreeAt w' base x (ns ++ [n]) ∧ Below base w w' := by
  obtain ⟨nv, kv, tv, hv, us, hC⟩ := hT
  have hsm := hC.small
  obtain ⟨hul, h⟩ := hC.toM
  have hkm := kids_more ns n hsm.2 hab
  have htm := top_more ns n
  have hhm := hosts_more ns n
  have hbx := h.hx
  have hxs := lt_of_blk h.blk
  obtain ⟨nm, kd, ab, wt, ⟨v6, hi, lo⟩⟩ := n
  obtain ⟨N, hN⟩ : ∃ N : Nd, N = ⟨nm, kd, ab, wt, ⟨v6, hi, lo⟩⟩ := ⟨_, rfl⟩
  rw [← hN] at hkm htm hhm ⊢
  have hNk : N.kind = kd := by rw [hN]
  have hNa : N.above = ab := by rw [hN]
  rw [hNk] at htm hhm
  rw [hNa] at hkm
  dsimp only at hab hk
  have hNC : (ndC N).toArray = #[.string (str nm), .int .i64 kd, .int .i64 ab, .int .i64 wt, .bool v6, .int .u64 (hi : Int), .int .u64 (lo : Int)] := by rw [hN]; rfl
  unfold ndA
  rw [show (#[.string (str N.name), .int .i64 N.kind, .int .i64 N.above, .int .i64 N.weight, .bool N.a.v6, .int .u64 (N.a.hi : Int), .int .u64 (N.a.lo : Int)] : Array Value) = #[.string (str nm), .int .i64 kd, .int .i64 ab, .int .i64 wt, .bool v6, .int .u64 (hi : Int), .int .u64 (lo : Int)] by rw [hN]]
  obtain ⟨z, hz⟩ : ∃ z, w.heap.size = z := ⟨_, rfl⟩
  obtain ⟨w1, hw1⟩ : ∃ w1, w.alloc (.cells #[.string (str nm), .int .i64 kd, .int .i64 ab, .int .i64 wt, .bool v6, .int .u64 (hi : Int), .int .u64 (lo : Int)] 68) = w1 := ⟨_, rfl⟩
  have hb1 : Below w.heap.size w w1 := hw1 ▸ (Below.refl _ _).alloc (Nat.le_refl _) _
  have hg1 : w1.heap[w.heap.size]? = some (.cells #[.string (str nm), .int .i64 kd, .int .i64 ab, .int .i64 wt, .bool v6, .int .u64 (hi : Int), .int .u64 (lo : Int)] 68 (0, 0)) := hw1 ▸ blk_new _ _ _
  have h1 := h.on hb1
  rw [hz] at hb1 hg1 hxs
  have hz1 : z < w1.heap.size := lt_of_blk hg1
  obtain ⟨An, cn, hnv, -, -, -⟩ := own_isv h1.nodes
  subst hnv
  have kx0 : w1.cell? ⟨x, 0, none⟩ = some (.slice An ns.length cn) := blk_cell h1.blk 0
  have hB1 : Below base w w1 := hb1.mono (by omega)
  have hrz : ∀ {e : TypeId} {size m : Nat} {v : Value} {ys : List Value}, w.ownsRow base e size v m ys → v.ownBlock = some z → False := fun ho e => by have := (World.ownsRow.lt ho _ e).2; omega
  have hrzn := hrz h.nodes
  have hrzk := hrz h.kids
  have hrzr := fun (i : Nat) (v : Value) (h1 : (tv :: hv :: us)[i]? = some v) => hrz (h.rows.own i v _ h1 (List.getElem?_eq_getElem (by rw [← h.rows.len]; exact (List.getElem?_eq_some_iff.1 h1).1)))
  obtain ⟨L, hL⟩ : ∃ L, ns.length = L := ⟨_, rfl⟩
  rw [hL] at kx0 hlt hab hrzn
  clear hC hb1 hrz
  replace h1 := hide h1
  replace hg1 := hide hg1
  replace hB1 := hide hB1
  replace hsm := hide hsm
  replace h := hide h
  replace hkm := hide hkm
  replace htm := hide htm
  replace hhm := hide hhm
  replace hN := hide hN
  replace hNk := hide hNk
  replace hNa := hide hNa
  replace hNC := hide hNC
  replace hrzk := hide hrzk
  replace hrzr := hide hrzr
  replace hul := hide hul
  go_enter Tryz.func54, Tryz.ntmps54
  go_upto_region 2 with fail
  clear hw1
  have hrx := row_not_x h1.out.nodes h1.out.blk (by decide)
  rw [hL] at hrx
  refine wp_region_Y [10] (KeptS w1.heap.size (fun k => (Value.slice An L cn).ownBlock = some k)) (by as_aux_lemma => kernel_rfl) ?_
  intro w2 hbd
  have h2 := h1.out.on hbd
  have hg2 := blk_below hbd hz1 hg1.out
  have hB2 := hB1.out.trans (hbd.mono (by omega))
  have ze := hbd.size
  have lx := fun l : RelW (KeptS w1.heap.size (fun k => (Value.slice An L cn).ownBlock = some k)) w2 => (show l.w.cell? ⟨x, 0, none⟩ = some (.slice An L cn) from (blk_cell ((l.hk.block x (by omega) (by rcases hrx with e | e <;> (intro e2; first | (rw [e] at e2; cases e2) | exact e e2))).trans h2.blk) 0).trans (by rw [hL]; rfl))
  have lz := fun l : RelW (KeptS w1.heap.size (fun k => (Value.slice An L cn).ownBlock = some k)) w2 => blk_cell ((l.hk.block z hz1 hrzn).trans hg2)
  clear h1 hg1 hB1 hbd hrx kx0
  replace h2 := hide h2
  replace hB2 := hide hB2
  replace hg2 := hide hg2
  refine wpY_seg [10] (KeptS w1.heap.size (fun k => (Value.slice An L cn).ownBlock = some k)) 0 6 (fuel := 5) (by as_aux_lemma => kernel_rfl) (fun d _ _ _ _ h => by cases d <;> exact h) (by as_aux_lemma => kernel_rfl) (by as_aux_lemma => kernel_rfl) (by as_aux_lemma => kernel_rfl) ?_
  simp only [List.drop_zero, List.take_succ_cons, List.take_zero]
  iterate 6 (refine wpQX_step (fun K hK => ?_); go_simp; refine hK _ ?_; clear hK K)
  refine wpQF_nil ?_
  clear lx lz
  refine wpW_step 6 rfl (by as_aux_lemma => kernel_rfl) (fun K hK => ?_)
  go_simp
  refine hK _ _ (relY_of (keptS_of_below ((Below.refl _ _).alloc (Nat.le_refl _) _) ze)) ?_
  clear hK K
  obtain ⟨wt2, hwt⟩ : ∃ wt2, w2.alloc (.cells (ndC N).toArray 68) = wt2 := ⟨_, rfl⟩
  have hbt : Below w2.heap.size w2 wt2 := hwt ▸ (Below.refl _ _).alloc (Nat.le_refl _) _
  have hnt : wt2.heap[w2.heap.size]? = some (.cells (ndC N).toArray 68 (0, 0)) := hwt ▸ blk_new _ _ _
  rw [hNC.out] at hwt
  change wpW _ _ _ _ _ _ _ _ (w2.alloc (.cells #[.string (str nm), .int .i64 kd, .int .i64 ab, .int .i64 wt, .bool v6, .int .u64 (hi : Int), .int .u64 (lo : Int)] 68))
  rw [hwt]
  have ht := h2.out.on hbt
  have hBt := hB2.out.trans (hbt.mono (by omega))
  have hgt := blk_below hbt (by omega) hg2.out
  have zt := hbt.size
  clear hwt hbt h2 hB2 hg2
  refine wpW_step 7 rfl (by as_aux_lemma => kernel_rfl) (fun K hK => ?_)
  rw [if_pos (by unfold Region.wanted; rfl)]
  refine wp_app_c (T := 68) Tryz.underlying26 info_nd rfl (by decide) (by decide) (.tmp 14) (.tmp 16) rfl base (.slice An L cn) L (ns.map ndC).flatten (ndC N) w2.heap.size rfl rfl (by have := ht.nodes; rw [hL] at this; exact this) hnt rfl (ndC_one _) (by omega) (by omega) fun v11 w11 q1 q2 => hK _ _ (relY_of ⟨q2.grown.os, q2.grown.tape, q2.grown.output, q2.grown.size, fun k hk hne => q2.grown.block k (by omega) (fun e => hne e.symm)⟩) ?_
  clear hK K hnt
  obtain ⟨A11, c11, hv11, -, -, -⟩ := own_isv q1
  subst hv11
  obtain ⟨hx11, h12⟩ := ht.pushN (n := N) (by rw [hL]; exact q1) (by rw [hL]; exact q2)
  have hlt11 := q2.grown.size
  have hB11 := hBt.trans (below_of_grown q2.grown (by omega) (fun k hk => (World.ownsRow.lt ht.nodes k (by rw [hL]; exact hk)).1))
  have hB12 : Below base w (w11.setCell ⟨x, 0, none⟩ (.slice A11 (L + 1) c11)) := hB11.setCell (p := ⟨x, 0, none⟩) hbx _
  have hgz : w11.heap[z]? = some (.cells #[.string (str nm), .int .i64 kd, .int .i64 ab, .int .i64 wt, .bool v6, .int .u64 (hi : Int), .int .u64 (lo : Int)] 68 (0, 0)) := (q2.grown.block z (by omega) (fun e => hrzn e.symm)).trans hgt
  have hgz2 : (w11.setCell ⟨x, 0, none⟩ (.slice A11 (L + 1) c11)).heap[z]? = some (.cells #[.string (str nm), .int .i64 kd, .int .i64 ab, .int .i64 wt, .bool v6, .int .u64 (hi : Int), .int .u64 (lo : Int)] 68 (0, 0)) := by
    obtain ⟨wq, g1, -, g3⟩ := store_cell hx11 0 (.slice A11 (L + 1) c11)
    rw [g1]
    exact grown_other g3 (lt_of_blk hgz) (by omega) hgz
  have hc : w11.cell? ⟨x, 0, none⟩ = some (.slice An ns.length cn) := blk_cell hx11 0
  have hf := blk_free hx11 0
  clear q1 q2 ht hBt hB11 hx11 hgt hgz
  obtain ⟨w12, hw12⟩ : ∃ w12, w11.setCell ⟨x, 0, none⟩ (.slice A11 (L + 1) c11) = w12 := ⟨_, rfl⟩
  rw [hw12] at h12 hB12 hgz2
  replace h12 := hide h12
  replace hB12 := hide hB12
  replace hgz2 := hide hgz2
  refine wpW_step 8 rfl (by as_aux_lemma => kernel_rfl) (fun K hK => ?_)
  go_simp
  refine hK _ _ (relY_of (IsRel.refl _)) ?_
  clear hK K
  refine wpW_step 9 rfl (by as_aux_lemma => kernel_rfl) (fun K hK => ?_)
  go_simp
  refine hK _ _ (relY_of (IsRel.refl _)) ?_
  clear hK K
  refine wpW_step 10 rfl (by as_aux_lemma => kernel_rfl) (fun K hK => ?_)
  go_simp
  refine hK _ _ (relY_wr (by as_aux_lemma => kernel_rfl)) ?_
  clear hK K hc hf hw12
  refine wpW_done (by as_aux_lemma => kernel_rfl) ?_ _
  obtain ⟨Ak, ck, hkv, -, -, -⟩ := own_isv h12.out.kids
  subst hkv
  have kx1 : w12.cell? ⟨x, 1, none⟩ = some (.slice Ak us.length ck) := blk_cell h12.out.blk 1
  have hbz12 : base ≤ w12.heap.size := by have := h12.out.hx; have := lt_of_blk h12.out.blk; omega
  go_upto_region 3 with fail
  apply wp_region_lit
  iterate 6 (refine wpList_plain rfl fun K hK => ?_; go_simp; refine hK _ _ ?_; clear hK K)
  refine wpl_lit_c (T := 88) Tryz.underlying87 info_ints rfl (by decide) (by decide) rfl (.tmp 24) (.tmp 25) rfl base (.slice Ak us.length ck) us.length us [.slice none 0 0] rfl rfl h12.out.kids rfl (by intro u hu; rw [List.mem_singleton] at hu; subst hu; rfl) hbz12 (by have := hul.out; omega) fun v13 w13 q1 q2 => ?_
  obtain ⟨A13, c13, hv13, -, -, -⟩ := own_isv q1
  subst hv13
  obtain ⟨hx13, h14⟩ := h12.out.pushK q1 q2
  have hB13 := hB12.out.trans (below_of_grown q2.grown hbz12 (fun k hk => (World.ownsRow.lt h12.out.kids k hk).1))
  have hB14 : Below base w (w13.setCell ⟨x, 1, none⟩ (.slice A13 (us.length + 1) c13)) := hB13.setCell (p := ⟨x, 1, none⟩) hbx _
  have hgz13 : w13.heap[z]? = some (.cells #[.string (str nm), .int .i64 kd, .int .i64 ab, .int .i64 wt, .bool v6, .int .u64 (hi : Int), .int .u64 (lo : Int)] 68 (0, 0)) := (q2.grown.block z (lt_of_blk hgz2.out) (fun e => hrzk.out e.symm)).trans hgz2.out
  have hgz14 : (w13.setCell ⟨x, 1, none⟩ (.slice A13 (us.length + 1) c13)).heap[z]? = some (.cells #[.string (str nm), .int .i64 kd, .int .i64 ab, .int .i64 wt, .bool v6, .int .u64 (hi : Int), .int .u64 (lo : Int)] 68 (0, 0)) := by
    obtain ⟨wq, g1, -, g3⟩ := store_cell hx13 1 (.slice A13 (us.length + 1) c13)
    rw [g1]
    exact grown_other g3 (lt_of_blk hgz13) (by omega) hgz13
  have hc := blk_cell hx13 1
  have hf := blk_free hx13 1
  clear q1 q2 hB13 hx13 hgz13 h12 hB12 hgz2 kx1
  obtain ⟨w14, hw14⟩ : ∃ w14, w13.setCell ⟨x, 1, none⟩ (.slice A13 (us.length + 1) c13) = w14 := ⟨_, rfl⟩
  rw [hw14] at h14 hB14 hgz14
  replace h14 := hide h14
  replace hB14 := hide hB14
  replace hgz14 := hide hgz14
  iterate 3 (refine wpList_plain rfl fun K hK => ?_; go_simp; refine hK _ _ ?_; clear hK K)
  refine wpList_nil ?_
  go_simp
  clear hc hf hw14
  have hgc14 := blk_cell hgz14.out
  have hbz14 : base ≤ w14.heap.size := by have := h14.out.hx; have := lt_of_blk h14.out.blk; omega
  go_upto_block 0 with fail
  go_cut [] (fun wx => (∃ tv' hv', TreeM wx base x (ns ++ [N]) (.slice A11 (L + 1) c11) (.slice A13 (us.length + 1) c13) tv' hv' (us ++ [.slice none 0 0]) (topF (ns ++ [N]) :: hostsF (ns ++ [N]) :: ((List.range ns.length).map (kidsF ns) ++ [[]]))) ∧ wx.heap[z]? = some (.cells #[.string (str nm), .int .i64 kd, .int .i64 ab, .int .i64 wt, .bool v6, .int .u64 (hi : Int), .int .u64 (lo : Int)] 68 (0, 0)) ∧ Below base w wx)
  case first =>
    clear hgc14
    by_cases k1 : kd = 1
    · have k4 : ¬ kd = 4 := by omega
      have t1 : (kd == 1) = true := by rw [k1]; rfl
      replace k1 := hide k1
      replace k4 := hide k4
      obtain ⟨At, ct, htv, -, -, -⟩ := own_isv (h14.out.rows.own 0 tv _ rfl rfl)
      subst htv
      obtain ⟨Y, hY⟩ : ∃ Y, topF ns = Y := ⟨_, rfl⟩
      have hoY := h14.out.rows.own 0 _ _ rfl rfl
      rw [hY] at hoY
      have kx2 : w14.cell? ⟨x, 2, none⟩ = some (.slice At Y.length ct) := by
        have := blk_cell h14.out.blk 2
        rw [hY] at this
        exact this
      have hYs : Y.length ≤ 1024 := by
        rw [← hY]
        unfold topF placesF placesN
        rw [List.length_map]
        have := List.length_filter_le (fun i => (ns[i]?).any (fun n => decide (n.kind = 1))) (List.range ns.length)
        rw [List.length_range] at this
        omega
      have hown14 : (Value.slice At Y.length ct).ownBlock = some z → False := hrzr.out 0 _ (by rw [← hY]; rfl)
      go_upto_region 6 with fail
      apply wp_region_lit
      iterate 7 (refine wpList_plain rfl fun K hK => ?_; go_simp; refine hK _ _ ?_; clear hK K)
      refine wpl_lit_c (T := 3) Tryz.underlying88 info_int rfl (by decide) (by decide) rfl (.tmp 37) (.tmp 39) rfl base (.slice At Y.length ct) Y.length (Y.map intv) [.int .i64 (L : Int)] rfl rfl hoY rfl (by intro u hu; rw [List.mem_singleton] at hu; subst hu; rfl) hbz14 (by omega) fun v15 w15 q1 q2 => ?_
      obtain ⟨A15, c15, hv15, -, -, -⟩ := own_isv q1
      subst hv15
      have h14' := h14.out
      rw [hY] at h14'
      obtain ⟨hx15, h16⟩ := TreeM.growT (m := (L : Int)) h14' q1 q2
      have hB15 := hB14.out.trans (below_of_grown q2.grown hbz14 (fun k hk => (World.ownsRow.lt hoY k hk).1))
      have hB16 : Below base w (w15.setCell ⟨x, 2, none⟩ (.slice A15 (Y.length + 1) c15)) := hB15.setCell (p := ⟨x, 2, none⟩) hbx _
      have hgz15 : w15.heap[z]? = some (.cells #[.string (str nm), .int .i64 kd, .int .i64 ab, .int .i64 wt, .bool v6, .int .u64 (hi : Int), .int .u64 (lo : Int)] 68 (0, 0)) := (q2.grown.block z (lt_of_blk hgz14.out) (fun e => hown14 e.symm)).trans hgz14.out
      have hgz16 : (w15.setCell ⟨x, 2, none⟩ (.slice A15 (Y.length + 1) c15)).heap[z]? = some (.cells #[.string (str nm), .int .i64 kd, .int .i64 ab, .int .i64 wt, .bool v6, .int .u64 (hi : Int), .int .u64 (lo : Int)] 68 (0, 0)) := by
        obtain ⟨wq, g1, -, g3⟩ := store_cell hx15 2 (.slice A15 (Y.length + 1) c15)
        rw [g1]
        exact grown_other g3 (lt_of_blk hgz15) (by omega) hgz15
      have hc := blk_cell hx15 2
      have hf := blk_free hx15 2
      clear q1 q2 hB15 hx15 hgz15 h14' kx2
      obtain ⟨w16, hw16⟩ : ∃ w16, w15.setCell ⟨x, 2, none⟩ (.slice A15 (Y.length + 1) c15) = w16 := ⟨_, rfl⟩
      rw [hw16] at h16 hB16 hgz16
      replace h16 := hide h16
      replace hB16 := hide hB16
      replace hgz16 := hide hgz16
      replace hoY := hide hoY
      replace hY := hide hY
      iterate 3 (refine wpList_plain rfl fun K hK => ?_; go_simp; refine hK _ _ ?_; clear hK K)
      refine wpList_nil ?_
      go_simp
      clear hc hf hw16
      go_wp2_with fail
      go_meet
      exact ⟨⟨_, _, by have := h16.out; rw [← hY.out] at this; rw [htm.out, hhm.out, if_pos k1.out, if_neg k4.out, hL]; rw [hL] at this; exact this⟩, hgz16.out, hB16.out⟩
    by_cases k4 : kd = 4
    · have t1 : (kd == 1) = false := by rw [k4]; rfl
      have t4 : (kd == 4) = true := by rw [k4]; rfl
      replace k1 := hide k1
      replace k4 := hide k4
      obtain ⟨At, ct, htv, -, -, -⟩ := own_isv (h14.out.rows.own 1 hv _ rfl rfl)
      subst htv
      obtain ⟨Y, hY⟩ : ∃ Y, hostsF ns = Y := ⟨_, rfl⟩
      have hoY := h14.out.rows.own 1 _ _ rfl rfl
      rw [hY] at hoY
      have kx2 : w14.cell? ⟨x, 3, none⟩ = some (.slice At Y.length ct) := by
        have := blk_cell h14.out.blk 3
        rw [hY] at this
        exact this
      have hYs : Y.length ≤ 1024 := by
        rw [← hY]
        unfold hostsF placesF placesN
        rw [List.length_map]
        have := List.length_filter_le (fun i => (ns[i]?).any (fun n => decide (n.kind = 4))) (List.range ns.length)
        rw [List.length_range] at this
        omega
      have hown14 : (Value.slice At Y.length ct).ownBlock = some z → False := hrzr.out 1 _ (by rw [← hY]; rfl)
      go_upto_region 8 with fail
      apply wp_region_lit
      iterate 7 (refine wpList_plain rfl fun K hK => ?_; go_simp; refine hK _ _ ?_; clear hK K)
      refine wpl_lit_c (T := 3) Tryz.underlying88 info_int rfl (by decide) (by decide) rfl (.tmp 49) (.tmp 51) rfl base (.slice At Y.length ct) Y.length (Y.map intv) [.int .i64 (L : Int)] rfl rfl hoY rfl (by intro u hu; rw [List.mem_singleton] at hu; subst hu; rfl) hbz14 (by omega) fun v15 w15 q1 q2 => ?_
      obtain ⟨A15, c15, hv15, -, -, -⟩ := own_isv q1
      subst hv15
      have h14' := h14.out
      rw [hY] at h14'
      obtain ⟨hx15, h16⟩ := TreeM.growH (m := (L : Int)) h14' q1 q2
      have hB15 := hB14.out.trans (below_of_grown q2.grown hbz14 (fun k hk => (World.ownsRow.lt hoY k hk).1))
      have hB16 : Below base w (w15.setCell ⟨x, 3, none⟩ (.slice A15 (Y.length + 1) c15)) := hB15.setCell (p := ⟨x, 3, none⟩) hbx _
      have hgz15 : w15.heap[z]? = some (.cells #[.string (str nm), .int .i64 kd, .int .i64 ab, .int .i64 wt, .bool v6, .int .u64 (hi : Int), .int .u64 (lo : Int)] 68 (0, 0)) := (q2.grown.block z (lt_of_blk hgz14.out) (fun e => hown14 e.symm)).trans hgz14.out
      have hgz16 : (w15.setCell ⟨x, 3, none⟩ (.slice A15 (Y.length + 1) c15)).heap[z]? = some (.cells #[.string (str nm), .int .i64 kd, .int .i64 ab, .int .i64 wt, .bool v6, .int .u64 (hi : Int), .int .u64 (lo : Int)] 68 (0, 0)) := by
        obtain ⟨wq, g1, -, g3⟩ := store_cell hx15 3 (.slice A15 (Y.length + 1) c15)
        rw [g1]
        exact grown_other g3 (lt_of_blk hgz15) (by omega) hgz15
      have hc := blk_cell hx15 3
      have hf := blk_free hx15 3
      clear q1 q2 hB15 hx15 hgz15 h14' kx2
      obtain ⟨w16, hw16⟩ : ∃ w16, w15.setCell ⟨x, 3, none⟩ (.slice A15 (Y.length + 1) c15) = w16 := ⟨_, rfl⟩
      rw [hw16] at h16 hB16 hgz16
      replace h16 := hide h16
      replace hB16 := hide hB16
      replace hgz16 := hide hgz16
      replace hoY := hide hoY
      replace hY := hide hY
      iterate 3 (refine wpList_plain rfl fun K hK => ?_; go_simp; refine hK _ _ ?_; clear hK K)
      refine wpList_nil ?_
      go_simp
      clear hc hf hw16
      go_wp2_with fail
      go_meet
      exact ⟨⟨_, _, by have := h16.out; rw [← hY.out] at this; rw [htm.out, hhm.out, if_neg k1.out, if_pos k4.out, hL]; rw [hL] at this; exact this⟩, hgz16.out, hB16.out⟩
    have t1 : (kd == 1) = false := by rw [beq_eq_false_iff_ne]; exact k1
    have t4 : (kd == 4) = false := by rw [beq_eq_false_iff_ne]; exact k4
    go_wp2_with fail
    go_meet
    exact ⟨⟨_, _, by rw [htm.out, hhm.out, if_neg k1, if_neg k4]; exact h14.out⟩, hgz14.out, hB14.out⟩
  case rest =>
  obtain ⟨⟨tv', hv', hM⟩, hgw, hBw⟩ := hcut
  clear h14 hgz14 hB14 hgc14 hbz14
  have hgwc := blk_cell hgw
  have hzw := lt_of_blk hgw
  have hrN : ∀ m ∈ ns ++ [N], m.above < ((ns ++ [N]).length : Int) := by
    intro m hm
    rw [List.length_append, List.length_singleton]
    rcases List.mem_append.1 hm with h9 | h9
    · have := hsm.out.2 m h9
      omega
    · rw [List.mem_singleton] at h9
      rw [h9, hNa.out]
      omega
  have hsm2 : (ns ++ [N]).length ≤ 1024 ∧ (∀ m ∈ ns ++ [N], m.above < ((ns ++ [N]).length : Int)) := ⟨by rw [List.length_append, List.length_singleton]; omega, hrN⟩
  have hlen2 : (ns ++ [N]).length = L + 1 := by rw [List.length_append, List.length_singleton, hL]
  by_cases h0 : 0 ≤ ab
  case neg =>
    have hfin : TreeAt wc base x (ns ++ [N]) := ⟨_, _, _, _, _, hM.blk, hM.hx, hM.nodes, by have := hM.kids; rw [show (us ++ [Value.slice none 0 0]).length = (ns ++ [N]).length by simp [hul.out]] at this; exact this, by rw [hkm.out, if_neg h0]; exact hM.rows, hsm2⟩
    clear hgw hM
    replace hfin := hide hfin
    replace hBw := hide hBw
    go_wp2_with fail
    exact bodyPost_end (v := .tuple #[]) (by simp [results, Tryz.results54, go_sem]) rfl ⟨rfl, hfin.out, hBw.out⟩
  obtain ⟨a, rfl⟩ : ∃ a : Nat, ab = (a : Int) := ⟨ab.toNat, by omega⟩
  have haL : a < us.length := by rw [hul.out]; omega
  obtain ⟨v, hva⟩ : ∃ v, us[a]? = some v := ⟨_, List.getElem?_eq_getElem haL⟩
  have hva2 : (us ++ [Value.slice none 0 0])[a]? = some v := by rw [List.getElem?_append_left haL]; exact hva
  have hxa : (topF (ns ++ [N]) :: hostsF (ns ++ [N]) :: ((List.range ns.length).map (kidsF ns) ++ [[]]))[a + 2]? = some (kidsF ns a) := by
    rw [List.getElem?_cons_succ, List.getElem?_cons_succ, List.getElem?_append_left (by simp; omega), List.getElem?_map, List.getElem?_range (by omega)]
    rfl
  have hoV := hM.rows.own (a + 2) v (kidsF ns a) hva2 hxa
  have hYs : (kidsF ns a).length ≤ 1024 := by
    unfold kidsF placesF placesN
    rw [List.length_map]
    have := List.length_filter_le (fun i => (ns[i]?).any (fun n => decide (n.above = (a : Int)))) (List.range ns.length)
    rw [List.length_range] at this
    omega
  have hvz := hrzr.out (a + 2) v hva
  obtain ⟨Y, hY⟩ : ∃ Y, kidsF ns a = Y := ⟨_, rfl⟩
  rw [hY] at hoV hYs hxa
  obtain ⟨Av, cv, hvv, -, -, -⟩ := own_isv hoV
  obtain ⟨gk, ck2, cur, ek, hgkb, -, -, hgk, hck, -, hcv⟩ := row_upd hM.kids (i := a) (by rw [List.length_append]; omega) v
  have hcv2 : cur[a]? = some v := by rw [← hcv]; exact hva2
  have hek : A13 = some ⟨gk, 0, none⟩ ∧ c13 = ck2 := by
    simp only [Value.slice.injEq] at ek
    exact ⟨ek.1, ek.2.2⟩
  obtain ⟨rfl, rfl⟩ := hek
  have hrx := row_not_x hoV hM.blk (by decide)
  have hrg := row_not_x hoV hgk (by decide)
  have hxlt := lt_of_blk hM.blk
  have hglt := lt_of_blk hgk
  have hbzw : base ≤ wc.heap.size := by omega
  subst hvv
  have ia : (a : Int) < (us.length : Int) + 1 := by omega
  clear hcv ek
  replace hM := hide hM
  replace hgw := hide hgw
  replace hBw := hide hBw
  replace hoV := hide hoV
  replace hgk := hide hgk
  go_upto_region 10 with fail
  refine wp_region_Y [18] (KeptS wc.heap.size (fun k => (Value.slice Av Y.length cv).ownBlock = some k)) (by as_aux_lemma => kernel_rfl) ?_
  intro we hbd
  have hMe := hM.out.on hbd
  have hge := blk_below hbd hzw hgw.out
  have hke := blk_below hbd hglt hgk.out
  have hBe := hBw.out.trans (hbd.mono hbzw)
  have ze := hbd.size
  have lx := fun l : RelW (KeptS wc.heap.size (fun k => (Value.slice Av Y.length cv).ownBlock = some k)) we => (show l.w.cell? ⟨x, 1, none⟩ = some (.slice (some ⟨gk, 0, none⟩) (us.length + 1) c13) from blk_cell ((l.hk.block x hxlt (by rcases hrx with e | e <;> (intro e2; first | (rw [e] at e2; cases e2) | exact e e2))).trans hMe.blk) 1)
  have lz := fun l : RelW (KeptS wc.heap.size (fun k => (Value.slice Av Y.length cv).ownBlock = some k)) we => blk_cell ((l.hk.block z hzw hvz).trans hge)
  have lg := fun l : RelW (KeptS wc.heap.size (fun k => (Value.slice Av Y.length cv).ownBlock = some k)) we => (blk_cell ((l.hk.block gk hglt (by rcases hrg with e | e <;> (intro e2; first | (rw [e] at e2; cases e2) | exact e e2))).trans hke) a).trans hcv2
  clear hM hgw hBw hgk hbd hrx hrg hgwc
  replace hMe := hide hMe
  replace hBe := hide hBe
  replace hke := hide hke
  replace hge := hide hge
  refine wpY_seg [18] (KeptS wc.heap.size (fun k => (Value.slice Av Y.length cv).ownBlock = some k)) 0 15 (fuel := 4) (by as_aux_lemma => kernel_rfl) (fun d _ _ _ _ h => by cases d <;> exact h) (by as_aux_lemma => kernel_rfl) (by as_aux_lemma => kernel_rfl) (by as_aux_lemma => kernel_rfl) ?_
  simp only [List.drop_zero, List.take_succ_cons, List.take_zero]
  iterate 15 (refine wpQX_step (fun K hK => ?_); go_simp; refine hK _ ?_; clear hK K)
  refine wpQF_nil ?_
  clear lx lz lg
  refine wpW_step 15 rfl (by as_aux_lemma => kernel_rfl) (fun K hK => ?_)
  go_simp
  refine hK _ _ (relY_of (keptS_of_below ((Below.refl _ _).alloc (Nat.le_refl _) _) ze)) ?_
  clear hK K
  obtain ⟨wt2', hwt⟩ : ∃ wt2', we.alloc (.cells #[.int .i64 (L : Int)] 3) = wt2' := ⟨_, rfl⟩
  have hbt : Below we.heap.size we wt2' := hwt ▸ (Below.refl _ _).alloc (Nat.le_refl _) _
  have hnt : wt2'.heap[we.heap.size]? = some (.cells ([.int .i64 (L : Int)] : List Value).toArray 3 (0, 0)) := hwt ▸ blk_new _ _ _
  change wpW _ _ _ _ _ _ _ _ (we.alloc (.cells #[.int .i64 (L : Int)] 3))
  rw [hwt]
  have hMt := hMe.out.on hbt
  have hBt := hBe.out.trans (hbt.mono (by omega))
  have zt := hbt.size
  clear hwt hbt hMe hBe hke hge
  refine wpW_step 16 rfl (by as_aux_lemma => kernel_rfl) (fun K hK => ?_)
  rw [if_pos (by unfold Region.wanted; rfl)]
  refine wp_app_c (T := 3) Tryz.underlying88 info_int rfl (by decide) (by decide) (.tmp 71) (.tmp 73) rfl base (.slice Av Y.length cv) Y.length (Y.map intv) [.int .i64 (L : Int)] we.heap.size rfl rfl (hMt.rows.own (a + 2) _ _ hva2 hxa) hnt rfl (by intro u hu; rw [List.mem_singleton] at hu; subst hu; rfl) (by omega) (by omega) fun v11 w11 q1 q2 => hK _ _ (relY_of ⟨q2.grown.os, q2.grown.tape, q2.grown.output, q2.grown.size, fun k hk hne => q2.grown.block k (by omega) (fun e => hne e.symm)⟩) ?_
  clear hK K hnt
  obtain ⟨A21, c21, hv21, -, -, -⟩ := own_isv q1
  subst hv21
  obtain ⟨gk2, ck3, cur2, ek2, hgk2b, hgk2, hcur2, hM2⟩ := hMt.growK (a := a) (m := (L : Int)) hva2 hxa q1 q2
  obtain ⟨rfl, rfl⟩ : gk = gk2 ∧ c13 = ck3 := by
    simp only [Value.slice.injEq, Option.some.injEq, Addr.mk.injEq] at ek2
    exact ⟨ek2.1.1, ek2.2.2⟩
  have hB11 := hBt.trans (below_of_grown q2.grown (by omega) (fun k hk => (World.ownsRow.lt (hMt.rows.own (a + 2) _ _ hva2 hxa) k hk).1))
  have hB12 : Below base w (w11.setCell ⟨gk, a, none⟩ (.slice A21 (Y.length + 1) c21)) := hB11.setCell (p := ⟨gk, a, none⟩) hgk2b _
  have hc := (blk_cell hgk2 a).trans hcur2
  have hf := blk_free hgk2 a
  obtain ⟨w12', hw12⟩ : ∃ w12', w11.setCell ⟨gk, a, none⟩ (.slice A21 (Y.length + 1) c21) = w12' := ⟨_, rfl⟩
  rw [hw12] at hM2 hB12
  have hfin : TreeAt w12' base x (ns ++ [N]) := ⟨_, _, _, _, _, hM2.blk, hM2.hx, hM2.nodes, by have := hM2.kids; rw [List.length_set, show (us ++ [Value.slice none 0 0]).length = (ns ++ [N]).length by simp [hul.out]] at this; exact this, by have hr9 := hM2.rows; rw [hL] at hr9; rw [hkm.out, if_pos h0, Int.toNat_natCast, hY, hL]; exact hr9, hsm2⟩
  clear q1 q2 hMt hBt hB11 hM2 hgk2 hcur2 ek2
  replace hfin := hide hfin
  replace hB12 := hide hB12
  refine wpW_step 17 rfl (by as_aux_lemma => kernel_rfl) (fun K hK => ?_)
  go_simp
  refine hK _ _ (relY_of (IsRel.refl _)) ?_
  clear hK K
  refine wpW_step 18 rfl (by as_aux_lemma => kernel_rfl) (fun K hK => ?_)
  go_simp
  refine hK _ _ (relY_wr (by as_aux_lemma => kernel_rfl)) ?_
  clear hK K hc hf hw12
  refine wpW_done (by as_aux_lemma => kernel_rfl) ?_ _
  exact bodyPost_end (v := .tuple #[]) (by simp [results, Tryz.results54, go_sem]) rfl ⟨rfl, hfin.out, hB12.out⟩
end Tree16
end Go.Proofs.YtcpokkkdmenmgaaGreatDoor
