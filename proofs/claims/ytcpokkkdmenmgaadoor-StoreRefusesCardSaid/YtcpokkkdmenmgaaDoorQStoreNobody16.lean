/- conf, the law: same: two configurations that are one. No condition. -/
import Derived.Test.YtcpokkkdmenmgaaDoorQStoreNobody15
import Derived.Test.YtcpokkkdmenmgaaDoorQStoreNobody10
import Derived.Test.YtcpokkkdmenmgaaDoorQStoreNobody11
import Derived.Test.YtcpokkkdmenmgaaDoorQStoreNobody12
import Derived.Test.YtcpokkkdmenmgaaDoorQStoreNobody8
import Derived.Test.YtcpokkkdmenmgaaDoorQStoreNobody3
namespace Go.Proofs.YtcpokkkdmenmgaaDoor
open Go.RowKit Go.ChangeShapes Go.WideShapes Go.ChangeAt Go.Deep
namespace Conf18
open Addr05
/-- A configuration as a value that was there. -/
structure CfgR (w : World) (B : Nat) (c : Cfg) (A1 A2 A3 : Option Addr) (k1 k2 k3 : Nat) : Prop where
  nodes : IsT ndC 7 w B A1 c.nodes.length c.nodes
  vips : IsT vpC 7 w B A2 c.vips.length c.vips
  views : IsT vwC 5 w B A3 c.views.length c.views
theorem CfgV.open {w : World} {base : Nat} {c : Cfg} {v : Array Value} (h : CfgV w base c v) : ∃ A1 A2 A3 k1 k2 k3, v = cfC c (.slice A1 c.nodes.length k1) (.slice A2 c.vips.length k2) (.slice A3 c.views.length k3) ∧ CfgR w w.heap.size c A1 A2 A3 k1 k2 k3 := by
  obtain ⟨A1, k1, e1, -, -, h1⟩ := own_isv h.nodes
  obtain ⟨A2, k2, e2, -, -, h2⟩ := own_isv h.vips
  obtain ⟨A3, k3, e3, -, -, h3⟩ := own_isv h.views
  have := h.arr
  rw [e1, e2, e3] at this
  exact ⟨A1, A2, A3, k1, k2, k3, this, ⟨rfl, h1⟩, ⟨rfl, h2⟩, ⟨rfl, h3⟩⟩
theorem CfgR.on {w w' : World} {c : Cfg} {A1 A2 A3 : Option Addr} {k1 k2 k3 : Nat} (h : CfgR w w.heap.size c A1 A2 A3 k1 k2 k3) (hb : Below w.heap.size w w') : CfgR w' w'.heap.size c A1 A2 A3 k1 k2 k3 := ⟨h.nodes.on hb, h.vips.on hb, h.views.on hb⟩
theorem CfgV.on {w w' : World} {base : Nat} {c : Cfg} {v : Array Value} (h : CfgV w base c v) (hb : Below w.heap.size w w') : CfgV w' base c v := ⟨row_on h.nodes hb, row_on h.vips hb, row_on h.views hb, h.arr⟩
theorem CfgV.zero (w : World) (base : Nat) : CfgV w base zeroC (cfC zeroC (.slice none 0 0) (.slice none 0 0) (.slice none 0 0)) := ⟨World.ownsRow_nil _ _ _ _, World.ownsRow_nil _ _ _ _, World.ownsRow_nil _ _ _ _, rfl⟩
set_option maxRecDepth 20000 in
set_option maxHeartbeats 16000000 in
theorem same_any (c : Cfg) (hs : c.small 4096) (w : World) (A1 A2 A3 B1 B2 B3 : Option Addr) (k1 k2 k3 j1 j2 j3 : Nat) (ha : CfgR w w.heap.size c A1 A2 A3 k1 k2 k3) (hb : CfgR w w.heap.size c B1 B2 B3 j1 j2 j3) :
    Calls Tryd.prog 12 #[.agg (cfC c (.slice A1 c.nodes.length k1) (.slice A2 c.vips.length k2) (.slice A3 c.views.length k3)), .agg (cfC c (.slice B1 c.nodes.length j1) (.slice B2 c.vips.length j2) (.slice B3 c.views.length j3))] w fun e w' => e = .returned (.bool true) ∧ Below w.heap.size w w' := by
  obtain ⟨n1, hn1⟩ : ∃ n, c.nodes.length = n := ⟨_, rfl⟩
  obtain ⟨n2, hn2⟩ : ∃ n, c.vips.length = n := ⟨_, rfl⟩
  obtain ⟨n3, hn3⟩ : ∃ n, c.views.length = n := ⟨_, rfl⟩
  obtain ⟨hs1, hs2, hs3⟩ := hs
  obtain ⟨p1, p2, p3⟩ := ha
  obtain ⟨q1, q2, q3⟩ := hb
  rw [hn1] at hs1 p1 q1 ⊢
  rw [hn2] at hs2 p2 q2 ⊢
  rw [hn3] at hs3 p3 q3 ⊢
  clear hn1 hn2 hn3
  obtain ⟨ns, hns⟩ : ∃ l, c.nodes = l := ⟨_, rfl⟩
  obtain ⟨vs, hvs⟩ : ∃ l, c.vips = l := ⟨_, rfl⟩
  obtain ⟨ws, hws⟩ : ∃ l, c.views = l := ⟨_, rfl⟩
  rw [hns] at p1 q1
  rw [hvs] at p2 q2
  rw [hws] at p3 q3
  obtain ⟨F, hF⟩ : ∃ x, c.factor = x := ⟨_, rfl⟩
  obtain ⟨D, hD⟩ : ∃ x, c.domain = x := ⟨_, rfl⟩
  obtain ⟨⟨s0v, s0h, s0l⟩, hs0⟩ : ∃ x, c.s0 = x := ⟨_, rfl⟩
  obtain ⟨⟨s1v, s1h, s1l⟩, hs1'⟩ : ∃ x, c.s1 = x := ⟨_, rfl⟩
  unfold cfC
  rw [hF, hD, hs0, hs1']
  dsimp only
  clear hF hD hs0 hs1' hns hvs hws
  obtain ⟨w1, hw1⟩ : ∃ w1, w.alloc (.cells #[.slice A1 n1 k1, .slice A2 n2 k2, .slice A3 n3 k3, .int .i64 F, .int .i64 D, .bool s0v, .int .u64 (s0h : Int), .int .u64 (s0l : Int), .bool s1v, .int .u64 (s1h : Int), .int .u64 (s1l : Int)] 30) = w1 := ⟨_, rfl⟩
  have hb1 : Below w.heap.size w w1 := hw1 ▸ (Below.refl _ _).alloc (Nat.le_refl _) _
  have hg1 : w1.heap[w.heap.size]? = some (.cells #[.slice A1 n1 k1, .slice A2 n2 k2, .slice A3 n3 k3, .int .i64 F, .int .i64 D, .bool s0v, .int .u64 (s0h : Int), .int .u64 (s0l : Int), .bool s1v, .int .u64 (s1h : Int), .int .u64 (s1l : Int)] 30 (0, 0)) := hw1 ▸ blk_new _ _ _
  have hz1 : w1.heap.size = w.heap.size + 1 := by rw [← hw1]; simp
  obtain ⟨w2, hw2⟩ : ∃ w2, w1.alloc (.cells #[.slice B1 n1 j1, .slice B2 n2 j2, .slice B3 n3 j3, .int .i64 F, .int .i64 D, .bool s0v, .int .u64 (s0h : Int), .int .u64 (s0l : Int), .bool s1v, .int .u64 (s1h : Int), .int .u64 (s1l : Int)] 30) = w2 := ⟨_, rfl⟩
  have hb2' : Below w1.heap.size w1 w2 := hw2 ▸ (Below.refl _ _).alloc (Nat.le_refl _) _
  have hg2 : w2.heap[w1.heap.size]? = some (.cells #[.slice B1 n1 j1, .slice B2 n2 j2, .slice B3 n3 j3, .int .i64 F, .int .i64 D, .bool s0v, .int .u64 (s0h : Int), .int .u64 (s0l : Int), .bool s1v, .int .u64 (s1h : Int), .int .u64 (s1l : Int)] 30 (0, 0)) := by
    rw [← hw2]
    exact blk_new _ _ _
  have hz2 : w2.heap.size = w.heap.size + 2 := by rw [← hw2]; simp [hz1]
  have hg1b := blk_below hb2' (by omega) hg1
  have hbw := hb1.trans (hb2'.mono (by omega))
  obtain ⟨S, hS⟩ : ∃ S, w.heap.size = S := ⟨_, rfl⟩
  obtain ⟨S2, hS2⟩ : ∃ S2, w1.heap.size = S2 := ⟨_, rfl⟩
  rw [hS] at hg1b hz1 hz2 hbw p1 p2 p3 q1 q2 q3
  rw [hS2] at hg2 hz1
  have hlw : S + 2 ≤ w2.heap.size := by omega
  have hss : S < S2 := by omega
  have hss2 : S2 < w2.heap.size := by omega
  clear hb1 hb2' hg1 hz1 hz2
  have hbF : Below w.heap.size w w2 := by rw [hS]; exact hbw
  replace p1 := hide p1
  replace p2 := hide p2
  replace p3 := hide p3
  replace q1 := hide q1
  replace q2 := hide q2
  replace q3 := hide q3
  replace hbw := hide hbw
  replace hbF := hide hbF
  replace hg1b := hide hg1b
  replace hg2 := hide hg2
  go_enter Tryd.func12, Tryd.ntmps12
  go_upto_region 1 with fail
  clear hw1 hw2
  have hgA := blk_cell hg1b.out
  have hgB := blk_cell hg2.out
  have heq := eq_selfs s0v (s0h : Int) (s0l : Int) s1v (s1h : Int) (s1l : Int)
  go_wp2_with fail
  clear hgA hgB heq
  go_loopw [4, 5] (fun _ iv wr => ∃ i : Nat, i ≤ n1 ∧ iv = .int .i64 (i : Int) ∧ Below w2.heap.size w2 wr) (fun _ iv _ => n1 - (intOf iv).toNat)
  case atStart => exact ⟨0, by omega, rfl, Below.refl _ _⟩
  case round =>
    obtain ⟨i, hi, rfl, hbr⟩ := hrel
    have hgAr : wr.heap[S]? = _ := blk_below hbr (by omega) hg1b.out
    have hgBr : wr.heap[S2]? = _ := blk_below hbr (by omega) hg2.out
    have hgA := blk_cell hgAr
    have hgB := blk_cell hgBr
    have hzr := hbr.size
    by_cases hin : i < n1
    · have hlt : (i : Int) < (n1 : Int) := by omega
      obtain ⟨ba, oa, xa, rfl, hba, hia, hca⟩ := IsT.at (f := ndC) (size := 7) (fun _ => rfl) (by decide) (p1.out.below hbw.out) hin
      obtain ⟨bb, ob, xb, rfl, hbb, hib, hcb⟩ := IsT.at (f := ndC) (size := 7) (fun _ => rfl) (by decide) (q1.out.below hbw.out) hin
      obtain rfl := Option.some.inj (hia.symm.trans hib)
      have wi1 : IntKind.i64.wrap ((i : Int) + 1) = ((i + 1 : Nat) : Int) := by rw [wraps62 _ (by omega) (by omega)]; omega
      clear hia hib
      replace hbr := hide hbr
      go_upto_region 6 with fail
      refine wp_region_X (Below w2.heap.size) (by as_aux_lemma => kernel_rfl) ?_
      intro wd hbd
      have hbd2 := hbr.out.trans (hbd.mono (by omega))
      have la := fun l : RelW (Below w2.heap.size) wd => blk_cell (blk_below (hbd2.trans l.hk) (by omega) hg1b.out)
      have lb := fun l : RelW (Below w2.heap.size) wd => blk_cell (blk_below (hbd2.trans l.hk) (by omega) hg2.out)
      have la0 := fun l : RelW (Below w2.heap.size) wd => (show l.w.cell? ⟨ba, oa + i * 7, none⟩ = some (.string (str xa.name)) from ((hbd2.trans l.hk).cell (p := ⟨ba, oa + i * 7, none⟩) (by dsimp only; omega)).trans (hca 0 _ rfl))
      have lb0 := fun l : RelW (Below w2.heap.size) wd => (show l.w.cell? ⟨bb, ob + i * 7, none⟩ = some (.string (str xa.name)) from ((hbd2.trans l.hk).cell (p := ⟨bb, ob + i * 7, none⟩) (by dsimp only; omega)).trans (hcb 0 _ rfl))
      have la1 := fun l : RelW (Below w2.heap.size) wd => (show l.w.cell? ⟨ba, oa + i * 7 + 1, none⟩ = some (.int .i64 xa.kind) from ((hbd2.trans l.hk).cell (p := ⟨ba, oa + i * 7 + 1, none⟩) (by dsimp only; omega)).trans (hca 1 _ rfl))
      have lb1 := fun l : RelW (Below w2.heap.size) wd => (show l.w.cell? ⟨bb, ob + i * 7 + 1, none⟩ = some (.int .i64 xa.kind) from ((hbd2.trans l.hk).cell (p := ⟨bb, ob + i * 7 + 1, none⟩) (by dsimp only; omega)).trans (hcb 1 _ rfl))
      have la2 := fun l : RelW (Below w2.heap.size) wd => (show l.w.cell? ⟨ba, oa + i * 7 + 2, none⟩ = some (.int .i64 xa.above) from ((hbd2.trans l.hk).cell (p := ⟨ba, oa + i * 7 + 2, none⟩) (by dsimp only; omega)).trans (hca 2 _ rfl))
      have lb2 := fun l : RelW (Below w2.heap.size) wd => (show l.w.cell? ⟨bb, ob + i * 7 + 2, none⟩ = some (.int .i64 xa.above) from ((hbd2.trans l.hk).cell (p := ⟨bb, ob + i * 7 + 2, none⟩) (by dsimp only; omega)).trans (hcb 2 _ rfl))
      have la3 := fun l : RelW (Below w2.heap.size) wd => (show l.w.cell? ⟨ba, oa + i * 7 + 3, none⟩ = some (.int .i64 xa.weight) from ((hbd2.trans l.hk).cell (p := ⟨ba, oa + i * 7 + 3, none⟩) (by dsimp only; omega)).trans (hca 3 _ rfl))
      have lb3 := fun l : RelW (Below w2.heap.size) wd => (show l.w.cell? ⟨bb, ob + i * 7 + 3, none⟩ = some (.int .i64 xa.weight) from ((hbd2.trans l.hk).cell (p := ⟨bb, ob + i * 7 + 3, none⟩) (by dsimp only; omega)).trans (hcb 3 _ rfl))
      have la4 := fun l : RelW (Below w2.heap.size) wd => (show l.w.cell? ⟨ba, oa + i * 7 + 4, none⟩ = some (.bool xa.a.v6) from ((hbd2.trans l.hk).cell (p := ⟨ba, oa + i * 7 + 4, none⟩) (by dsimp only; omega)).trans (hca 4 _ rfl))
      have lb4 := fun l : RelW (Below w2.heap.size) wd => (show l.w.cell? ⟨bb, ob + i * 7 + 4, none⟩ = some (.bool xa.a.v6) from ((hbd2.trans l.hk).cell (p := ⟨bb, ob + i * 7 + 4, none⟩) (by dsimp only; omega)).trans (hcb 4 _ rfl))
      have la5 := fun l : RelW (Below w2.heap.size) wd => (show l.w.cell? ⟨ba, oa + i * 7 + 5, none⟩ = some (.int .u64 (xa.a.hi : Int)) from ((hbd2.trans l.hk).cell (p := ⟨ba, oa + i * 7 + 5, none⟩) (by dsimp only; omega)).trans (hca 5 _ rfl))
      have lb5 := fun l : RelW (Below w2.heap.size) wd => (show l.w.cell? ⟨bb, ob + i * 7 + 5, none⟩ = some (.int .u64 (xa.a.hi : Int)) from ((hbd2.trans l.hk).cell (p := ⟨bb, ob + i * 7 + 5, none⟩) (by dsimp only; omega)).trans (hcb 5 _ rfl))
      have la6 := fun l : RelW (Below w2.heap.size) wd => (show l.w.cell? ⟨ba, oa + i * 7 + 6, none⟩ = some (.int .u64 (xa.a.lo : Int)) from ((hbd2.trans l.hk).cell (p := ⟨ba, oa + i * 7 + 6, none⟩) (by dsimp only; omega)).trans (hca 6 _ rfl))
      have lb6 := fun l : RelW (Below w2.heap.size) wd => (show l.w.cell? ⟨bb, ob + i * 7 + 6, none⟩ = some (.int .u64 (xa.a.lo : Int)) from ((hbd2.trans l.hk).cell (p := ⟨bb, ob + i * 7 + 6, none⟩) (by dsimp only; omega)).trans (hcb 6 _ rfl))
      clear hca hcb hbd hgA hgB hgAr hgBr
      replace hbd2 := hide hbd2
      refine wpX_seg (Below w2.heap.size) 0 11 (fuel := 0) (by as_aux_lemma => kernel_rfl) (fun d _ _ _ _ h => by cases d <;> exact h) (by as_aux_lemma => kernel_rfl) (by as_aux_lemma => kernel_rfl) ?_
      simp only [List.drop_zero, List.take_succ_cons, List.take_zero]
      iterate 11 (refine wpQX_step (fun K hK => ?_); go_simp; refine hK _ ?_; clear hK K)
      refine wpQF_nil ?_
      clear la lb la0 lb0 la1 lb1 la2 lb2 la3 lb3 la4 lb4 la5 lb5 la6 lb6
      refine wpF_done (by as_aux_lemma => kernel_rfl) ?_ 0
      go_wp2_with fail
      exact ⟨⟨i + 1, by omega, by first | rfl | go_num, hbd2.out⟩, by simp only [intOf]; omega⟩
    · obtain rfl : i = n1 := by omega
      have hlt : ((i : Int) < (i : Int)) = False := by simp
      replace hbr := hide hbr
      go_wp2_with fail
      go_loopw [4, 6] (fun _ iv wr => ∃ i : Nat, i ≤ n2 ∧ iv = .int .i64 (i : Int) ∧ Below w2.heap.size w2 wr) (fun _ iv _ => n2 - (intOf iv).toNat)
      case atStart => exact ⟨0, by omega, rfl, hbr.out⟩
      case round =>
        clear hgA hgB hgAr hgBr hbr hlt
        obtain ⟨i, hi, rfl, hbr⟩ := hrel
        have hgAr : wr.heap[S]? = _ := blk_below hbr (by omega) hg1b.out
        have hgBr : wr.heap[S2]? = _ := blk_below hbr (by omega) hg2.out
        have hgA := blk_cell hgAr
        have hgB := blk_cell hgBr
        have hzr := hbr.size
        by_cases hin : i < n2
        · have hlt : (i : Int) < (n2 : Int) := by omega
          obtain ⟨ba, oa, xa, rfl, hba, hia, hca⟩ := IsT.at (f := vpC) (size := 7) (fun _ => rfl) (by decide) (p2.out.below hbw.out) hin
          obtain ⟨bb, ob, xb, rfl, hbb, hib, hcb⟩ := IsT.at (f := vpC) (size := 7) (fun _ => rfl) (by decide) (q2.out.below hbw.out) hin
          obtain rfl := Option.some.inj (hia.symm.trans hib)
          have wi1 : IntKind.i64.wrap ((i : Int) + 1) = ((i + 1 : Nat) : Int) := by rw [wraps62 _ (by omega) (by omega)]; omega
          clear hia hib
          replace hbr := hide hbr
          go_upto_region 11 with fail
          refine wp_region_X (Below w2.heap.size) (by as_aux_lemma => kernel_rfl) ?_
          intro wd hbd
          have hbd2 := hbr.out.trans (hbd.mono (by omega))
          have la := fun l : RelW (Below w2.heap.size) wd => blk_cell (blk_below (hbd2.trans l.hk) (by omega) hg1b.out)
          have lb := fun l : RelW (Below w2.heap.size) wd => blk_cell (blk_below (hbd2.trans l.hk) (by omega) hg2.out)
          have la0 := fun l : RelW (Below w2.heap.size) wd => (show l.w.cell? ⟨ba, oa + i * 7, none⟩ = some (.bool xa.a.v6) from ((hbd2.trans l.hk).cell (p := ⟨ba, oa + i * 7, none⟩) (by dsimp only; omega)).trans (hca 0 _ rfl))
          have lb0 := fun l : RelW (Below w2.heap.size) wd => (show l.w.cell? ⟨bb, ob + i * 7, none⟩ = some (.bool xa.a.v6) from ((hbd2.trans l.hk).cell (p := ⟨bb, ob + i * 7, none⟩) (by dsimp only; omega)).trans (hcb 0 _ rfl))
          have la1 := fun l : RelW (Below w2.heap.size) wd => (show l.w.cell? ⟨ba, oa + i * 7 + 1, none⟩ = some (.int .u64 (xa.a.hi : Int)) from ((hbd2.trans l.hk).cell (p := ⟨ba, oa + i * 7 + 1, none⟩) (by dsimp only; omega)).trans (hca 1 _ rfl))
          have lb1 := fun l : RelW (Below w2.heap.size) wd => (show l.w.cell? ⟨bb, ob + i * 7 + 1, none⟩ = some (.int .u64 (xa.a.hi : Int)) from ((hbd2.trans l.hk).cell (p := ⟨bb, ob + i * 7 + 1, none⟩) (by dsimp only; omega)).trans (hcb 1 _ rfl))
          have la2 := fun l : RelW (Below w2.heap.size) wd => (show l.w.cell? ⟨ba, oa + i * 7 + 2, none⟩ = some (.int .u64 (xa.a.lo : Int)) from ((hbd2.trans l.hk).cell (p := ⟨ba, oa + i * 7 + 2, none⟩) (by dsimp only; omega)).trans (hca 2 _ rfl))
          have lb2 := fun l : RelW (Below w2.heap.size) wd => (show l.w.cell? ⟨bb, ob + i * 7 + 2, none⟩ = some (.int .u64 (xa.a.lo : Int)) from ((hbd2.trans l.hk).cell (p := ⟨bb, ob + i * 7 + 2, none⟩) (by dsimp only; omega)).trans (hcb 2 _ rfl))
          have la3 := fun l : RelW (Below w2.heap.size) wd => (show l.w.cell? ⟨ba, oa + i * 7 + 3, none⟩ = some (.int .i64 xa.proto) from ((hbd2.trans l.hk).cell (p := ⟨ba, oa + i * 7 + 3, none⟩) (by dsimp only; omega)).trans (hca 3 _ rfl))
          have lb3 := fun l : RelW (Below w2.heap.size) wd => (show l.w.cell? ⟨bb, ob + i * 7 + 3, none⟩ = some (.int .i64 xa.proto) from ((hbd2.trans l.hk).cell (p := ⟨bb, ob + i * 7 + 3, none⟩) (by dsimp only; omega)).trans (hcb 3 _ rfl))
          have la4 := fun l : RelW (Below w2.heap.size) wd => (show l.w.cell? ⟨ba, oa + i * 7 + 4, none⟩ = some (.int .i64 xa.port) from ((hbd2.trans l.hk).cell (p := ⟨ba, oa + i * 7 + 4, none⟩) (by dsimp only; omega)).trans (hca 4 _ rfl))
          have lb4 := fun l : RelW (Below w2.heap.size) wd => (show l.w.cell? ⟨bb, ob + i * 7 + 4, none⟩ = some (.int .i64 xa.port) from ((hbd2.trans l.hk).cell (p := ⟨bb, ob + i * 7 + 4, none⟩) (by dsimp only; omega)).trans (hcb 4 _ rfl))
          have la5 := fun l : RelW (Below w2.heap.size) wd => (show l.w.cell? ⟨ba, oa + i * 7 + 5, none⟩ = some (.int .i64 xa.copies) from ((hbd2.trans l.hk).cell (p := ⟨ba, oa + i * 7 + 5, none⟩) (by dsimp only; omega)).trans (hca 5 _ rfl))
          have lb5 := fun l : RelW (Below w2.heap.size) wd => (show l.w.cell? ⟨bb, ob + i * 7 + 5, none⟩ = some (.int .i64 xa.copies) from ((hbd2.trans l.hk).cell (p := ⟨bb, ob + i * 7 + 5, none⟩) (by dsimp only; omega)).trans (hcb 5 _ rfl))
          have la6 := fun l : RelW (Below w2.heap.size) wd => (show l.w.cell? ⟨ba, oa + i * 7 + 6, none⟩ = some (.bool xa.nat) from ((hbd2.trans l.hk).cell (p := ⟨ba, oa + i * 7 + 6, none⟩) (by dsimp only; omega)).trans (hca 6 _ rfl))
          have lb6 := fun l : RelW (Below w2.heap.size) wd => (show l.w.cell? ⟨bb, ob + i * 7 + 6, none⟩ = some (.bool xa.nat) from ((hbd2.trans l.hk).cell (p := ⟨bb, ob + i * 7 + 6, none⟩) (by dsimp only; omega)).trans (hcb 6 _ rfl))
          clear hca hcb hbd hgA hgB hgAr hgBr
          replace hbd2 := hide hbd2
          refine wpX_seg (Below w2.heap.size) 0 11 (fuel := 0) (by as_aux_lemma => kernel_rfl) (fun d _ _ _ _ h => by cases d <;> exact h) (by as_aux_lemma => kernel_rfl) (by as_aux_lemma => kernel_rfl) ?_
          simp only [List.drop_zero, List.take_succ_cons, List.take_zero]
          iterate 11 (refine wpQX_step (fun K hK => ?_); go_simp; refine hK _ ?_; clear hK K)
          refine wpQF_nil ?_
          clear la lb la0 lb0 la1 lb1 la2 lb2 la3 lb3 la4 lb4 la5 lb5 la6 lb6
          refine wpF_done (by as_aux_lemma => kernel_rfl) ?_ 0
          go_wp2_with fail
          exact ⟨⟨i + 1, by omega, by first | rfl | go_num, hbd2.out⟩, by simp only [intOf]; omega⟩
        · obtain rfl : i = n2 := by omega
          have hlt : ((i : Int) < (i : Int)) = False := by simp
          replace hbr := hide hbr
          go_wp2_with fail
          go_loopw [4, 7] (fun _ iv wr => ∃ i : Nat, i ≤ n3 ∧ iv = .int .i64 (i : Int) ∧ Below w2.heap.size w2 wr) (fun _ iv _ => n3 - (intOf iv).toNat)
          case atStart => exact ⟨0, by omega, rfl, hbr.out⟩
          case round =>
            clear hgA hgB hgAr hgBr hbr hlt
            obtain ⟨i, hi, rfl, hbr⟩ := hrel
            have hgAr : wr.heap[S]? = _ := blk_below hbr (by omega) hg1b.out
            have hgBr : wr.heap[S2]? = _ := blk_below hbr (by omega) hg2.out
            have hgA := blk_cell hgAr
            have hgB := blk_cell hgBr
            have hzr := hbr.size
            by_cases hin : i < n3
            · have hlt : (i : Int) < (n3 : Int) := by omega
              obtain ⟨ba, oa, xa, rfl, hba, hia, hca⟩ := IsT.at (f := vwC) (size := 5) (fun _ => rfl) (by decide) (p3.out.below hbw.out) hin
              obtain ⟨bb, ob, xb, rfl, hbb, hib, hcb⟩ := IsT.at (f := vwC) (size := 5) (fun _ => rfl) (by decide) (q3.out.below hbw.out) hin
              obtain rfl := Option.some.inj (hia.symm.trans hib)
              have wi1 : IntKind.i64.wrap ((i : Int) + 1) = ((i + 1 : Nat) : Int) := by rw [wraps62 _ (by omega) (by omega)]; omega
              clear hia hib
              replace hbr := hide hbr
              go_upto_region 16 with fail
              refine wp_region_X (Below w2.heap.size) (by as_aux_lemma => kernel_rfl) ?_
              intro wd hbd
              have hbd2 := hbr.out.trans (hbd.mono (by omega))
              have la := fun l : RelW (Below w2.heap.size) wd => blk_cell (blk_below (hbd2.trans l.hk) (by omega) hg1b.out)
              have lb := fun l : RelW (Below w2.heap.size) wd => blk_cell (blk_below (hbd2.trans l.hk) (by omega) hg2.out)
              have la0 := fun l : RelW (Below w2.heap.size) wd => (show l.w.cell? ⟨ba, oa + i * 5, none⟩ = some (.bool xa.a.v6) from ((hbd2.trans l.hk).cell (p := ⟨ba, oa + i * 5, none⟩) (by dsimp only; omega)).trans (hca 0 _ rfl))
              have lb0 := fun l : RelW (Below w2.heap.size) wd => (show l.w.cell? ⟨bb, ob + i * 5, none⟩ = some (.bool xa.a.v6) from ((hbd2.trans l.hk).cell (p := ⟨bb, ob + i * 5, none⟩) (by dsimp only; omega)).trans (hcb 0 _ rfl))
              have la1 := fun l : RelW (Below w2.heap.size) wd => (show l.w.cell? ⟨ba, oa + i * 5 + 1, none⟩ = some (.int .u64 (xa.a.hi : Int)) from ((hbd2.trans l.hk).cell (p := ⟨ba, oa + i * 5 + 1, none⟩) (by dsimp only; omega)).trans (hca 1 _ rfl))
              have lb1 := fun l : RelW (Below w2.heap.size) wd => (show l.w.cell? ⟨bb, ob + i * 5 + 1, none⟩ = some (.int .u64 (xa.a.hi : Int)) from ((hbd2.trans l.hk).cell (p := ⟨bb, ob + i * 5 + 1, none⟩) (by dsimp only; omega)).trans (hcb 1 _ rfl))
              have la2 := fun l : RelW (Below w2.heap.size) wd => (show l.w.cell? ⟨ba, oa + i * 5 + 2, none⟩ = some (.int .u64 (xa.a.lo : Int)) from ((hbd2.trans l.hk).cell (p := ⟨ba, oa + i * 5 + 2, none⟩) (by dsimp only; omega)).trans (hca 2 _ rfl))
              have lb2 := fun l : RelW (Below w2.heap.size) wd => (show l.w.cell? ⟨bb, ob + i * 5 + 2, none⟩ = some (.int .u64 (xa.a.lo : Int)) from ((hbd2.trans l.hk).cell (p := ⟨bb, ob + i * 5 + 2, none⟩) (by dsimp only; omega)).trans (hcb 2 _ rfl))
              have la3 := fun l : RelW (Below w2.heap.size) wd => (show l.w.cell? ⟨ba, oa + i * 5 + 3, none⟩ = some (.int .i64 xa.bits) from ((hbd2.trans l.hk).cell (p := ⟨ba, oa + i * 5 + 3, none⟩) (by dsimp only; omega)).trans (hca 3 _ rfl))
              have lb3 := fun l : RelW (Below w2.heap.size) wd => (show l.w.cell? ⟨bb, ob + i * 5 + 3, none⟩ = some (.int .i64 xa.bits) from ((hbd2.trans l.hk).cell (p := ⟨bb, ob + i * 5 + 3, none⟩) (by dsimp only; omega)).trans (hcb 3 _ rfl))
              have la4 := fun l : RelW (Below w2.heap.size) wd => (show l.w.cell? ⟨ba, oa + i * 5 + 4, none⟩ = some (.int .i64 xa.level) from ((hbd2.trans l.hk).cell (p := ⟨ba, oa + i * 5 + 4, none⟩) (by dsimp only; omega)).trans (hca 4 _ rfl))
              have lb4 := fun l : RelW (Below w2.heap.size) wd => (show l.w.cell? ⟨bb, ob + i * 5 + 4, none⟩ = some (.int .i64 xa.level) from ((hbd2.trans l.hk).cell (p := ⟨bb, ob + i * 5 + 4, none⟩) (by dsimp only; omega)).trans (hcb 4 _ rfl))
              clear hca hcb hbd hgA hgB hgAr hgBr
              replace hbd2 := hide hbd2
              refine wpX_seg (Below w2.heap.size) 0 11 (fuel := 0) (by as_aux_lemma => kernel_rfl) (fun d _ _ _ _ h => by cases d <;> exact h) (by as_aux_lemma => kernel_rfl) (by as_aux_lemma => kernel_rfl) ?_
              simp only [List.drop_zero, List.take_succ_cons, List.take_zero]
              iterate 11 (refine wpQX_step (fun K hK => ?_); go_simp; refine hK _ ?_; clear hK K)
              refine wpQF_nil ?_
              clear la lb la0 lb0 la1 lb1 la2 lb2 la3 lb3 la4 lb4
              refine wpF_done (by as_aux_lemma => kernel_rfl) ?_ 0
              go_wp2_with fail
              exact ⟨⟨i + 1, by omega, by first | rfl | go_num, hbd2.out⟩, by simp only [intOf]; omega⟩
            · obtain rfl : i = n3 := by omega
              have hlt : ((i : Int) < (i : Int)) = False := by simp
              replace hbr := hide hbr
              go_wp2_with fail
              go_ret
              exact ⟨rfl, hbF.out.trans (hbr.out.mono (by omega))⟩
end Conf18
end Go.Proofs.YtcpokkkdmenmgaaDoor
/- valid, plain: which configurations may be. No condition. -/
namespace Go.Proofs.YtcpokkkdmenmgaaDoor
open Go.RowKit Go.ChangeShapes Go.WideShapes Go.ChangeAt Go.Deep
namespace Val19
open Conf18 (Nd Vp Vw Cfg zA)
open Addr05 (Adr rightP)
open Tree16 (rightA treeF topF)
def plainF (c : Cfg) : Nat :=
  if c.factor < 100 ∨ 1000 < c.factor ∨ (c.domain ≠ 2 ∧ c.domain ≠ 3) then 5
  else if c.s0.v6 = true ∨ rightA c.s0 = false ∨ (c.s1 ≠ zA ∧ c.s1.v6 = false) then 18
  else if 64 < c.vips.length ∨ 64 < c.views.length then 6 else 0
def selfN (c : Cfg) (n : Nd) : Bool := !decide (n.kind = 4 ∧ (if n.a.v6 = true then c.s1 else c.s0) = zA)
def selfB (c : Cfg) : Bool := c.nodes.all (selfN c)
def twinV (v x : Vp) : Bool := decide (x.a = v.a ∧ x.proto = v.proto ∧ x.port = v.port)
def vipF (v : Vp) (l : List Vp) : Nat :=
  if rightA v.a = false then 18 else if v.proto ≠ 6 ∧ v.proto ≠ 17 then 14
  else if v.port < 0 ∨ 65535 < v.port ∨ v.copies < 1 ∨ 8 < v.copies ∨ (1 < v.copies ∧ v.proto ≠ 17) then 5
  else if l.any (twinV v) = true then 8 else 0
def twinW (v x : Vw) : Bool := decide (x.a = v.a ∧ x.bits = v.bits)
def viewG (v : Vw) (l : List Vw) (levels : Nat) : Nat :=
  if rightP v.a v.bits = false then 18 else if v.level < 0 ∨ (levels : Int) ≤ v.level then 5 else if l.any (twinW v) = true then 8 else 0
/-- The first error of a row. -/
def rowE {α : Type} (f : α → List α → Nat) (l : List α) : Nat → Nat
  | 0 => 0
  | i + 1 => if rowE f l i ≠ 0 then rowE f l i else match l[i]? with
    | none => 0
    | some x => f x (l.take i)
def validF (c : Cfg) : Nat :=
  if plainF c ≠ 0 then plainF c else match treeF c.nodes with
    | some p => p.2
    | none => if selfB c = false then 7 else if rowE vipF c.vips c.vips.length ≠ 0 then rowE vipF c.vips c.vips.length
      else rowE (fun v l => viewG v l (topF c.nodes).length) c.views c.views.length
end Val19
end Go.Proofs.YtcpokkkdmenmgaaDoor
/- tree: right: why a node may not be, that stands behind others. Condition: fewer than 2^40 nodes, names of at most 2^40 bytes. -/
namespace Go.Proofs.YtcpokkkdmenmgaaDoor
open Go.RowKit Go.ChangeShapes Go.WideShapes Go.ChangeAt Go.Deep
namespace Tree16
open Conf18 (Nd zA ndC nd_one eqw)
open Addr05 (Adr wpl_eqA wpl_neA arrA adr_ext)
def ndA (n : Nd) : Array Value := #[.string (str n.name), .int .i64 n.kind, .int .i64 n.above, .int .i64 n.weight, .bool n.a.v6, .int .u64 (n.a.hi : Int), .int .u64 (n.a.lo : Int)]
theorem rightA_is (a : Adr) : Addr05.rightB a.v6 a.hi a.lo = rightA a := by
  unfold rightA
  apply Bool.eq_iff_iff.2
  rw [decide_eq_true_iff]
  exact Addr05.rightB_iff a
/-- The tests, one by one, as the code makes them. -/
def tB2 (wt kd : Int) : Bool := decide (wt < 0) || decide (65535 < wt) || ((kd == 1) && (wt != 0))
def tB3 (kd ab : Int) (k : Nat) : Bool := ((kd == 1) && (ab != -1)) || (decide (1 < kd) && (decide (ab < 0) || decide ((k : Int) ≤ ab)))
theorem rightF_tests (n : Nd) (l : List Nd) : rightF n l = if (!nameF n.name || decide (n.kind < 1) || decide (4 < n.kind)) = true then 1 else if tB2 n.weight n.kind = true then 17 else if tB3 n.kind n.above l.length = true then 16
    else if (decide (1 < n.kind) && ((l.getD n.above.toNat n).kind != n.kind - 1)) = true then 16 else if (!rightA n.a || ((n.kind != 4) && !decide (n.a = zA))) = true then 18 else if (l.any (clash n)) = true then 8 else 0 := by
  unfold rightF tB2 tB3
  have h1 : (nameF n.name = false ∨ n.kind < 1 ∨ 4 < n.kind) ↔ (!nameF n.name || decide (n.kind < 1) || decide (4 < n.kind)) = true := by
    simp [or_assoc]
  have h2 : (n.weight < 0 ∨ 65535 < n.weight ∨ (n.kind = 1 ∧ n.weight ≠ 0)) ↔ (decide (n.weight < 0) || decide (65535 < n.weight) || ((n.kind == 1) && (n.weight != 0))) = true := by
    simp [or_assoc]
  have h3 : ((n.kind = 1 ∧ n.above ≠ -1) ∨ (1 < n.kind ∧ (n.above < 0 ∨ (l.length : Int) ≤ n.above))) ↔ (((n.kind == 1) && (n.above != -1)) || (decide (1 < n.kind) && (decide (n.above < 0) || decide ((l.length : Int) ≤ n.above)))) = true := by
    simp
  have h4 : (1 < n.kind ∧ (l.getD n.above.toNat n).kind ≠ n.kind - 1) ↔ (decide (1 < n.kind) && ((l.getD n.above.toNat n).kind != n.kind - 1)) = true := by
    simp
  have h5 : (rightA n.a = false ∨ (n.kind ≠ 4 ∧ n.a ≠ zA)) ↔ (!rightA n.a || ((n.kind != 4) && !decide (n.a = zA))) = true := by
    simp
  simp only [h1, h2, h3, h4, h5]
set_option maxRecDepth 20000 in
set_option maxHeartbeats 16000000 in
theorem right_any (n : Nd) (l : List Nd) (k cap : Nat) (A : Option Addr) (w : World) (hl : IsT ndC 7 w w.heap.size A k l) (hk : k ≤ 1099511627776) (hn : n.name.length ≤ 1099511627776) :
    Calls Tryd.prog 45 #[.agg (ndA n), .slice A k cap] w fun e w' => e = .returned (.int .i64 (rightF n l : Int)) ∧ Below w.heap.size w w' := by
  obtain ⟨r, hr⟩ : ∃ r, rightF n l = r := ⟨_, rfl⟩
  rw [hr]
  rw [rightF_tests] at hr
  obtain ⟨nm, kd, ab, wt, ⟨v6, hi, lo⟩⟩ := n
  unfold ndA
  dsimp only at hn hr ⊢
  have hlen := hl.1
  rw [hlen] at hr
  obtain ⟨z, hz⟩ : ∃ z, w.heap.size = z := ⟨_, rfl⟩
  obtain ⟨w1, hw1⟩ : ∃ w1, w.alloc (.cells #[.string (str nm), .int .i64 kd, .int .i64 ab, .int .i64 wt, .bool v6, .int .u64 (hi : Int), .int .u64 (lo : Int)] 72) = w1 := ⟨_, rfl⟩
  have hB : Below w.heap.size w w1 := hw1 ▸ (Below.refl _ _).alloc (Nat.le_refl _) _
  have hg1 : w1.heap[w.heap.size]? = some (.cells #[.string (str nm), .int .i64 kd, .int .i64 ab, .int .i64 wt, .bool v6, .int .u64 (hi : Int), .int .u64 (lo : Int)] 72 (0, 0)) := hw1 ▸ blk_new _ _ _
  have hl1 := hl.below hB
  rw [hz] at hg1 hl1 hB
  have hz1 : z < w1.heap.size := Conf18.lt_of_blk hg1
  have hrA : ∀ w, Calls Tryd.prog 28 #[.agg #[.bool v6, .int .u64 (hi : Int), .int .u64 (lo : Int)]] w fun e w' => e = .returned (.bool (rightA ⟨v6, hi, lo⟩)) ∧ Below w.heap.size w w' := fun w => by
    have h := Addr05.Right_any v6 hi lo w
    rw [rightA_is ⟨v6, hi, lo⟩] at h
    exact h
  have q := name_any nm hn w1
  obtain ⟨NB, hNB⟩ : ∃ B, nameF nm = B := ⟨_, rfl⟩
  rw [hNB] at hr q
  have hgc := blk_cell hg1
  obtain ⟨bk1, hbk1⟩ : ∃ b, decide (kd < 1) = b := ⟨_, rfl⟩
  obtain ⟨bk4, hbk4⟩ : ∃ b, decide (4 < kd) = b := ⟨_, rfl⟩
  replace hB := hide hB
  replace hg1 := hide hg1
  replace hl1 := hide hl1
  replace hr := hide hr
  replace q := hide q
  replace hNB := hide hNB
  replace hrA := hide hrA
  clear hl
  go_enter Tryd.func45, Tryd.ntmps45
  go_upto_region 1 with fail
  clear hw1
  obtain ⟨B1, hB1⟩ : ∃ b, (!NB || bk1 || bk4) = b := ⟨_, rfl⟩
  go_cut [7] (fun bv wx => bv = .bool B1 ∧ w1 = wx)
  case first =>
    clear hr hrA hlen hk
    go_wp2_with fail
    refine (q.out).mono ?_
    rintro e w1 ⟨rfl, rfl⟩
    cases NB
    · obtain rfl : true = B1 := hB1
      go_wp2_with fail
      go_meet
      exact ⟨rfl, rfl⟩
    · cases bk1
      · obtain rfl : bk4 = B1 := hB1
        go_wp2_with fail
        go_meet
        exact ⟨rfl, rfl⟩
      · obtain rfl : true = B1 := by rw [← hB1]; rfl
        go_wp2_with fail
        go_meet
        exact ⟨rfl, rfl⟩
  case rest =>
  obtain ⟨rfl, rfl⟩ := hcut
  have hr1 := hr.out
  rw [hbk1, hbk4, hB1] at hr1
  have hk14 : B1 = false → 1 ≤ kd ∧ kd ≤ 4 := fun h => by
    rw [h] at hB1
    simp at hB1
    have h1 := of_decide_eq_false (hbk1.trans hB1.1.2)
    have h2 := of_decide_eq_false (hbk4.trans hB1.2)
    exact ⟨by omega, by omega⟩
  clear hr q hNB hB1
  cases B1
  case true =>
    obtain rfl : 1 = r := by rw [← hr1]; rfl
    go_wp2_with fail
    go_ret
    exact ⟨rfl, hB.out⟩
  case false =>
  clear hbk1 hbk4
  have hwk : IntKind.i64.wrap (kd - 1) = kd - 1 := by
    have := hk14 rfl
    exact wraps62 _ (by omega) (by omega)
  replace hwk := hide hwk
  clear hk14
  obtain ⟨bw0, hbw0⟩ : ∃ b, decide (wt < 0) = b := ⟨_, rfl⟩
  obtain ⟨bw6, hbw6⟩ : ∃ b, decide (65535 < wt) = b := ⟨_, rfl⟩
  obtain ⟨ek1, hek1⟩ : ∃ b, (kd == 1) = b := ⟨_, rfl⟩
  obtain ⟨ew0, hew0⟩ : ∃ b, (wt != 0) = b := ⟨_, rfl⟩
  obtain ⟨B2, hB2⟩ : ∃ b, tB2 wt kd = b := ⟨_, rfl⟩
  have hB2' : (bw0 || bw6 || (ek1 && ew0)) = B2 := by rw [← hbw0, ← hbw6, ← hek1, ← hew0]; exact hB2
  replace hr1 := hide hr1
  replace hB2 := hide hB2
  go_upto_region 3 with fail
  go_cut [22] (fun bv wx => bv = .bool B2 ∧ w1 = wx)
  case first =>
    clear hr1 hrA hlen hk
    cases bw0
    · cases bw6
      · cases ek1
        · obtain rfl : false = B2 := hB2'
          go_wp2_with fail
          go_meet
          exact ⟨rfl, rfl⟩
        · obtain rfl : ew0 = B2 := hB2'
          go_wp2_with fail
          go_meet
          exact ⟨rfl, rfl⟩
      · obtain rfl : true = B2 := by rw [← hB2']; rfl
        cases ek1 <;> cases ew0 <;> (go_wp2_with fail; go_meet; exact ⟨rfl, rfl⟩)
    · obtain rfl : true = B2 := by rw [← hB2']; rfl
      cases bw6 <;> cases ek1 <;> cases ew0 <;> (go_wp2_with fail; go_meet; exact ⟨rfl, rfl⟩)
  case rest =>
  obtain ⟨rfl, rfl⟩ := hcut
  have hr2 := hr1.out
  rw [if_neg (by decide), hB2.out] at hr2
  clear hr1 hB2 hB2' hbw0 hbw6 hew0
  cases B2
  case true =>
    obtain rfl : 17 = r := by rw [← hr2]; rfl
    go_wp2_with fail
    go_ret
    exact ⟨rfl, hB.out⟩
  case false =>
  obtain ⟨ea1, hea1⟩ : ∃ b, (ab != -1) = b := ⟨_, rfl⟩
  obtain ⟨bk5, hbk5⟩ : ∃ b, decide (1 < kd) = b := ⟨_, rfl⟩
  obtain ⟨ba0, hba0⟩ : ∃ b, decide (ab < 0) = b := ⟨_, rfl⟩
  obtain ⟨bak, hbak⟩ : ∃ b, decide ((k : Int) ≤ ab) = b := ⟨_, rfl⟩
  obtain ⟨B3, hB3⟩ : ∃ b, tB3 kd ab k = b := ⟨_, rfl⟩
  obtain ⟨B3a, hB3a⟩ : ∃ b, (ek1 && ea1) = b := ⟨_, rfl⟩
  have hB3' : (B3a || (bk5 && (ba0 || bak))) = B3 := by rw [← hB3a, ← hek1, ← hea1, ← hbk5, ← hba0, ← hbak]; exact hB3
  replace hr2 := hide hr2
  replace hB3 := hide hB3
  go_upto_region 5 with fail
  go_cut [41] (fun bv wx => bv = .bool B3a ∧ w1 = wx)
  case first =>
    clear hr2 hrA hlen hk hB3' hB3
    cases ek1
    · obtain rfl : false = B3a := hB3a
      go_wp2_with fail
      go_meet
      exact ⟨rfl, rfl⟩
    · obtain rfl : ea1 = B3a := hB3a
      go_wp2_with fail
      go_meet
      exact ⟨rfl, rfl⟩
  case rest =>
  obtain ⟨rfl, rfl⟩ := hcut
  go_upto_if 41 with fail
  go_cut [41] (fun bv wx => bv = .bool B3 ∧ w1 = wx)
  case first =>
    clear hr2 hrA hlen hk hB3 hB3a hek1 hea1
    cases B3a
    · cases bk5
      · obtain rfl : false = B3 := hB3'
        go_wp2_with fail
        go_meet
        exact ⟨rfl, rfl⟩
      · cases ba0
        · obtain rfl : bak = B3 := hB3'
          go_wp2_with fail
          go_meet
          exact ⟨rfl, rfl⟩
        · obtain rfl : true = B3 := by rw [← hB3']; rfl
          go_wp2_with fail
          go_meet
          exact ⟨rfl, rfl⟩
    · obtain rfl : true = B3 := by rw [← hB3']; rfl
      go_wp2_with fail
      go_meet
      exact ⟨rfl, rfl⟩
  case rest =>
  obtain ⟨rfl, rfl⟩ := hcut
  have hr3 := hr2.out
  rw [hB3.out] at hr3
  clear hr2 hB3 hB3a hek1 hea1
  cases B3
  case true =>
    obtain rfl : 16 = r := by rw [← hr3]; rfl
    go_wp2_with fail
    go_ret
    exact ⟨rfl, hB.out⟩
  case false =>
  obtain ⟨B4, hB4⟩ : ∃ b, (decide (1 < kd) && ((l.getD ab.toNat ⟨nm, kd, ab, wt, ⟨v6, hi, lo⟩⟩).kind != kd - 1)) = b := ⟨_, rfl⟩
  rw [if_neg (by decide), hB4] at hr3
  rw [hbk5] at hB4
  have hz1' := hz1
  replace hr3 := hide hr3
  go_upto_region 8 with fail
  go_cut [65] from 66 to 80 (fun bv wx => bv = .bool B4 ∧ Below w1.heap.size w1 wx)
  case first =>
    have la := fun l : Later w1 => blk_cell (blk_below l.hb hz1 hg1.out)
    cases bk5
    · obtain rfl : false = B4 := hB4
      clear hr3 hrA hlen hk hB3'
      refine wp_region_L (by as_aux_lemma => kernel_rfl) ?_
      refine wpE_seg 0 16 (fuel := 0) (by as_aux_lemma => kernel_rfl) (fun d _ _ _ _ h => by cases d <;> exact h) (by as_aux_lemma => kernel_rfl) (by as_aux_lemma => kernel_rfl) ?_
      simp only [List.drop_zero, List.take_succ_cons, List.take_zero]
      iterate 3 (refine wpQE_step (fun K hK => ?_); go_simp; refine hK _ ?_; clear hK K)
      refine wpQE_val_skip (.bool false) 10 rfl (fun l => rfl) (by as_aux_lemma => kernel_rfl) ?_
      dsimp only [putU, List.take_succ_cons, List.take_zero, List.drop_succ_cons, List.drop_zero, Act.put]
      iterate 2 (refine wpQE_step (fun K hK => ?_); go_simp; refine hK _ ?_; clear hK K)
      refine wpQE_nil ?_
      refine wpE_done (by as_aux_lemma => kernel_rfl) (fun w3 hb3 => ?_) 0
      clear la
      go_wp2_with fail
      go_meet
      exact ⟨rfl, hb3⟩
    · have ha0 : 0 ≤ ab := by
        cases ba0
        · have := of_decide_eq_false hba0; omega
        · exfalso; cases B3a <;> simp at hB3'
      have hak : ab < (k : Int) := by
        cases bak
        · have := of_decide_eq_false hbak; omega
        · exfalso; cases B3a <;> cases ba0 <;> simp at hB3'
      obtain ⟨u, rfl⟩ : ∃ u : Nat, ab = (u : Int) := ⟨ab.toNat, by omega⟩
      obtain ⟨b, off, m, rfl, hbk, hmi, hcell⟩ := IsT.at (f := ndC) (size := 7) (fun _ => rfl) (by decide) hl1.out (i := u) (by omega)
      have kc : w1.cell? ⟨b, off + u * 7 + 1, none⟩ = some (.int .i64 m.kind) := hcell 1 _ rfl
      have lk := fun l : Later w1 => (l.hb.cell (p := ⟨b, off + u * 7 + 1, none⟩) (by dsimp only; omega)).trans kc
      rw [show (l.getD (u : Int).toNat ⟨nm, kd, (u : Int), wt, ⟨v6, hi, lo⟩⟩) = m by rw [Int.toNat_natCast, List.getD_eq_getElem?_getD, hmi]; rfl] at hB4
      have wk : IntKind.i64.wrap (kd - 1) = kd - 1 := hwk.out
      obtain ⟨em, hem⟩ : ∃ b, (m.kind != kd - 1) = b := ⟨_, rfl⟩
      rw [hem] at hB4
      obtain rfl : em = B4 := hB4
      clear hcell hr3 hrA hlen hk hB3' hba0 hbak kc
      refine wp_region_L (by as_aux_lemma => kernel_rfl) ?_
      refine wpE_seg 0 16 (fuel := 0) (by as_aux_lemma => kernel_rfl) (fun d _ _ _ _ h => by cases d <;> exact h) (by as_aux_lemma => kernel_rfl) (by as_aux_lemma => kernel_rfl) ?_
      simp only [List.drop_zero, List.take_succ_cons, List.take_zero]
      iterate 16 (refine wpQE_step (fun K hK => ?_); go_simp; refine hK _ ?_; clear hK K)
      refine wpQE_nil ?_
      refine wpE_done (by as_aux_lemma => kernel_rfl) (fun w3 hb3 => ?_) 0
      clear la lk
      go_wp2_with fail
      go_meet
      exact ⟨rfl, hb3⟩
  case rest =>
  obtain ⟨rfl, hb3⟩ := hcut
  have hg3 := blk_below hb3 hz1 hg1.out
  have hl3 := hl1.out.below (hb3.mono (by omega))
  have hB3w := hB.out.trans (hb3.mono (by omega))
  have hz3 : z < wc.heap.size := Conf18.lt_of_blk hg3
  have hgc3 := blk_cell hg3
  clear hb3 hgc hg1 hl1 hB hB3' hba0 hbak hbk5 hB4
  replace hg3 := hide hg3
  replace hl3 := hide hl3
  replace hB3w := hide hB3w
  cases B4
  case true =>
    obtain rfl : 16 = r := by rw [← hr3.out]; rfl
    go_wp2_with fail
    go_ret
    exact ⟨rfl, hB3w.out⟩
  case false =>
  have hr4 := hr3.out
  rw [if_neg (by decide)] at hr4
  clear hr3
  obtain ⟨ez, hez⟩ : ∃ b, decide ((⟨v6, hi, lo⟩ : Adr) = zA) = b := ⟨_, rfl⟩
  obtain ⟨ek4, hek4⟩ : ∃ b, (kd != 4) = b := ⟨_, rfl⟩
  obtain ⟨RB, hRB⟩ : ∃ B, rightA ⟨v6, hi, lo⟩ = B := ⟨_, rfl⟩
  have qA := hrA.out wc
  rw [hRB] at hr4 qA
  rw [hez, hek4] at hr4
  obtain ⟨B5, hB5⟩ : ∃ b, (!RB || (ek4 && !ez)) = b := ⟨_, rfl⟩
  rw [hB5] at hr4
  clear hrA hRB
  replace qA := hide qA
  replace hr4 := hide hr4
  go_upto_region 10 with fail
  go_cut [81] from 82 to 96 (fun bv wx => bv = .bool B5 ∧ Below wc.heap.size wc wx)
  case first =>
    clear hr4 hlen hk
    go_wp2_with fail
    refine (qA.out).mono ?_
    rintro e w4 ⟨rfl, hb4⟩
    have hgc4 := blk_cell (blk_below hb4 hz3 hg3.out)
    clear hgc3 qA
    replace hb4 := hide hb4
    cases RB
    · obtain rfl : true = B5 := hB5
      go_wp2_with fail
      go_meet
      exact ⟨rfl, hb4.out⟩
    · cases ek4
      · obtain rfl : false = B5 := hB5
        go_wp2_with fail
        go_meet
        exact ⟨rfl, hb4.out⟩
      · cases ez
        · obtain rfl : true = B5 := hB5
          have hz0 := of_decide_eq_false hez
          clear hez
          cases v6
          · by_cases hh : hi = 0
            · subst hh
              have hl0 : ¬ (lo : Int) = 0 := fun h => hz0 (by rw [show lo = 0 by omega])
              clear hz0
              go_wp2_with fail
              go_meet
              exact ⟨rfl, hb4.out⟩
            · have hh0 : ¬ (hi : Int) = 0 := by omega
              clear hz0
              go_wp2_with fail
              go_meet
              exact ⟨rfl, hb4.out⟩
          · clear hz0
            go_wp2_with fail
            go_meet
            exact ⟨rfl, hb4.out⟩
        · obtain rfl : false = B5 := hB5
          have hz0 := of_decide_eq_true hez
          obtain ⟨rfl, rfl, rfl⟩ : v6 = false ∧ hi = 0 ∧ lo = 0 := by cases hz0; exact ⟨rfl, rfl, rfl⟩
          clear hez hz0
          go_wp2_with fail
          go_meet
          exact ⟨rfl, hb4.out⟩
  case rest =>
  obtain ⟨rfl, hb4⟩ := hcut
  have hr5 := hr4.out
  have hg4 := blk_below hb4 hz3 hg3.out
  have hl4 := hl3.out.below (hb4.mono (by omega))
  have hB4w := hB3w.out.trans (hb4.mono (by have := hB3w.out.size; omega))
  have hz4 : z < wc.heap.size := Conf18.lt_of_blk hg4
  clear hr4 hB5 hez hek4 hgc3 qA hb4 hg3 hl3 hB3w
  cases B5
  case true =>
    obtain rfl : 18 = r := by rw [← hr5]; rfl
    replace hB4w := hide hB4w
    go_wp2_with fail
    go_ret
    exact ⟨rfl, hB4w.out⟩
  case false =>
  simp only [Bool.false_eq_true, ↓reduceIte] at hr5
  have hrY : ∀ (j : Nat) (x : Nd), l[j]? = some x → clash ⟨nm, kd, ab, wt, ⟨v6, hi, lo⟩⟩ x = true → r = 8 := by
    intro j x hj hc
    rw [← hr5, if_pos (List.any_eq_true.2 ⟨x, List.mem_of_getElem? hj, hc⟩)]
  have hrN : (∀ (j : Nat) (x : Nd), l[j]? = some x → clash ⟨nm, kd, ab, wt, ⟨v6, hi, lo⟩⟩ x = false) → r = 0 := by
    intro h
    rw [← hr5, if_neg]
    intro h2
    obtain ⟨x, hx, hc⟩ := List.any_eq_true.1 h2
    obtain ⟨j, hj⟩ := List.mem_iff_getElem?.1 hx
    rw [h j x hj] at hc
    cases hc
  clear hr5
  obtain ⟨w5, hw5⟩ : ∃ w5, wc = w5 := ⟨_, rfl⟩
  rw [hw5] at hg4 hl4 hB4w hz4 ⊢
  clear hw5
  replace hg4 := hide hg4
  replace hl4 := hide hl4
  replace hB4w := hide hB4w
  replace hrY := hide hrY
  replace hrN := hide hrN
  go_wp2_with fail
  go_loopw [4, 6, 99] (fun _ _ iv wr => ∃ i : Nat, i ≤ k ∧ iv = .int .i64 (i : Int) ∧ (∀ (j : Nat) (x : Nd), j < i → l[j]? = some x → clash ⟨nm, kd, ab, wt, ⟨v6, hi, lo⟩⟩ x = false) ∧ Below w5.heap.size w5 wr) (fun _ _ iv _ => k - (intOf iv).toNat)
  case atStart => exact ⟨0, by omega, rfl, fun j x hj => by omega, Below.refl _ _⟩
  case round =>
    obtain ⟨i, hi', rfl, hno, hbr⟩ := hrel
    have hzr := hbr.size
    by_cases hin : i < k
    · have hlt : (i : Int) < (k : Int) := by omega
      obtain ⟨b, off, x, rfl, hbk, hni, hcell⟩ := IsT.at (f := ndC) (size := 7) (fun _ => rfl) (by decide) (hl4.out.below (hbr.mono (by omega))) hin
      have hrX := hrY.out i x hni
      have hno2 : clash ⟨nm, kd, ab, wt, ⟨v6, hi, lo⟩⟩ x = false → ∀ (j : Nat) (y : Nd), j < i + 1 → l[j]? = some y → clash ⟨nm, kd, ab, wt, ⟨v6, hi, lo⟩⟩ y = false := by
        intro hc j y hj hd
        by_cases hji : j = i
        · subst hji
          obtain rfl := Option.some.inj (hni.symm.trans hd)
          exact hc
        · exact hno j y (by omega) hd
      clear hno hni
      obtain ⟨xn, xk, xab, xw, ⟨xv, xh, xl⟩⟩ := x
      have y0 : wr.cell? ⟨b, off + i * 7, none⟩ = some (.string (str xn)) := hcell 0 _ rfl
      have y1 : wr.cell? ⟨b, off + i * 7 + 1, none⟩ = some (.int .i64 xk) := hcell 1 _ rfl
      have y2 : wr.cell? ⟨b, off + i * 7 + 2, none⟩ = some (.int .i64 xab) := hcell 2 _ rfl
      have y3 : wr.cell? ⟨b, off + i * 7 + 3, none⟩ = some (.int .i64 xw) := hcell 3 _ rfl
      have y4 : wr.cell? ⟨b, off + i * 7 + 4, none⟩ = some (.bool xv) := hcell 4 _ rfl
      have y5 : wr.cell? ⟨b, off + i * 7 + 5, none⟩ = some (.int .u64 (xh : Int)) := hcell 5 _ rfl
      have y6 : wr.cell? ⟨b, off + i * 7 + 6, none⟩ = some (.int .u64 (xl : Int)) := hcell 6 _ rfl
      clear hcell
      have te : ((str xn).toList == (str nm).toList) = decide (xn = nm) := by
        rw [show (str nm).toList = nm by simp [str, ByteArray.toList_eq]]
        exact eqw xn nm
      have wi1 : IntKind.i64.wrap ((i : Int) + 1) = ((i + 1 : Nat) : Int) := by rw [wraps62 _ (by omega) (by omega)]; omega
      replace hbr := hide hbr
      replace hrX := hide hrX
      replace hno2 := hide hno2
      go_upto_region 14 with fail
      apply wp_region_lit
      iterate 2 (refine wpList_plain rfl fun K hK => ?_; go_simp; refine hK _ _ ?_; clear hK K)
      refine wpl_new rfl rfl 72 _ (Conf18.alloc_nd _ rfl) 6 rfl (.tmp 102) rfl _ (fun _ => rfl) (fun _ => rfl) rfl (by kernel_rfl) (nd_one (str xn) xk xab xw xv (xh : Int) (xl : Int)) ?_
      intro w6 hg6 hb6 hz6
      refine wpList_nil ?_
      go_simp
      have hgx := blk_cell hg6
      have hgz := blk_cell (blk_below hb6 (by omega) (blk_below hbr.out (by omega) hg4.out))
      have hb6' := hbr.out.trans (hb6.mono (by omega))
      have hbW := hB4w.out.trans (hb6'.mono (by have := hB4w.out.size; omega))
      clear y0 y1 y2 y3 y4 y5 y6 hg6 hb6 hbr
      obtain ⟨CB, hCB⟩ : ∃ b, clash ⟨nm, kd, ab, wt, ⟨v6, hi, lo⟩⟩ ⟨xn, xk, xab, xw, ⟨xv, xh, xl⟩⟩ = b := ⟨_, rfl⟩
      have hrX2 := hrX.out
      have hno3 := hno2.out
      rw [hCB] at hrX2 hno3
      clear hrX hno2
      obtain ⟨bn, hbn⟩ : ∃ b, decide (xn = nm) = b := ⟨_, rfl⟩
      rw [hbn] at te
      obtain ⟨b4, hb4'⟩ : ∃ b, (kd == 4) = b := ⟨_, rfl⟩
      obtain ⟨bx, hbx⟩ : ∃ b, (xk == 4) = b := ⟨_, rfl⟩
      obtain ⟨ba, hba⟩ : ∃ b, decide ((⟨xv, xh, xl⟩ : Adr) = ⟨v6, hi, lo⟩) = b := ⟨_, rfl⟩
      have hCB2 : (bn || ((b4 && bx) && ba)) = CB := by
        rw [← hCB, ← hbn, ← hb4', ← hbx, ← hba]
        unfold clash
        apply Bool.eq_iff_iff.2
        simp [and_assoc]
      clear hCB
      replace hb6' := hide hb6'
      replace hbW := hide hbW
      replace hrX2 := hide hrX2
      replace hno3 := hide hno3
      go_upto_region 15 with fail
      go_cut [124] from 103 to 123 (fun bv wx => bv = .bool CB ∧ w6 = wx)
      case first =>
        clear hrX2 hno3
        cases bn
        · cases b4
          · obtain rfl : false = CB := hCB2
            go_wp2_with fail
            go_meet
            exact ⟨rfl, rfl⟩
          · cases bx
            · obtain rfl : false = CB := hCB2
              go_wp2_with fail
              go_meet
              exact ⟨rfl, rfl⟩
            · obtain rfl : ba = CB := hCB2
              cases ba
              · have hz0 := of_decide_eq_false hba
                clear hba
                by_cases hv : xv = v6
                · subst hv
                  by_cases hh : xh = hi
                  · subst hh
                    have hl0 : ¬ (xl : Int) = (lo : Int) := fun h => hz0 (by rw [show xl = lo by omega])
                    clear hz0
                    go_wp2_with fail
                    go_meet
                    exact ⟨rfl, rfl⟩
                  · have hh0 : ¬ (xh : Int) = (hi : Int) := by omega
                    clear hz0
                    go_wp2_with fail
                    go_meet
                    exact ⟨rfl, rfl⟩
                · clear hz0
                  go_wp2_with fail
                  go_meet
                  exact ⟨rfl, rfl⟩
              · have hz0 := of_decide_eq_true hba
                obtain ⟨rfl, rfl, rfl⟩ : xv = v6 ∧ xh = hi ∧ xl = lo := by cases hz0; exact ⟨rfl, rfl, rfl⟩
                clear hba hz0
                go_wp2_with fail
                go_meet
                exact ⟨rfl, rfl⟩
        · obtain rfl : true = CB := by rw [← hCB2]; rfl
          go_wp2_with fail
          go_meet
          exact ⟨rfl, rfl⟩
      case rest =>
      obtain ⟨rfl, rfl⟩ := hcut
      clear hCB2 te hbn hb4' hbx hba hgx hgz
      cases CB
      · have hn4 := hno3.out rfl
        clear hno3 hrX2
        replace hn4 := hide hn4
        go_wp2_with fail
        exact ⟨⟨i + 1, by omega, by first | rfl | go_num, hn4.out, hb6'.out⟩, by simp only [intOf]; omega⟩
      · have e8 := hrX2.out rfl
        clear hno3 hrX2
        replace e8 := hide e8
        go_wp2_with fail
        refine bodyPost_ret (v := .int .i64 8) (by simp [results, Tryd.results45, go_sem]) rfl ⟨by rw [e8.out]; rfl, by rw [hz]; exact hbW.out⟩
    · obtain rfl : i = k := by omega
      have hlt : ((i : Int) < (i : Int)) = False := by simp
      have e0 := hrN.out (fun j x hj => hno j x (by have := (List.getElem?_eq_some_iff.1 hj).1; omega) hj)
      have hbW := hB4w.out.trans (hbr.mono (by have := hB4w.out.size; omega))
      clear hno hbr
      replace e0 := hide e0
      replace hbW := hide hbW
      go_wp2_with fail
      refine bodyPost_ret (v := .int .i64 0) (by simp [results, Tryd.results45, go_sem]) rfl ⟨by rw [e0.out]; rfl, by rw [hz]; exact hbW.out⟩
end Tree16
end Go.Proofs.YtcpokkkdmenmgaaDoor
/- tree: a tree in memory: its nodes, and rows of places that lie apart. No condition. -/
namespace Go.Proofs.YtcpokkkdmenmgaaDoor
open Go.RowKit Go.ChangeShapes Go.WideShapes Go.ChangeAt Go.Deep
namespace Tree16
open Conf18 (Nd ndC lt_of_blk)
def intv (n : Int) : Value := .int .i64 n
/-- Rows of numbers that lie apart. -/
structure Rows (w : World) (base : Nat) (vs : List Value) (xs : List (List Int)) : Prop where
  len : vs.length = xs.length
  own : ∀ (i : Nat) (v : Value) (x : List Int), vs[i]? = some v → xs[i]? = some x → w.ownsRow base 3 1 v x.length (x.map intv)
  apart : ∀ (i j : Nat) (v u : Value) (g : Nat), vs[i]? = some v → vs[j]? = some u → v.ownBlock = some g → u.ownBlock = some g → i = j
section
variable {w w' : World} {base : Nat} {vs : List Value} {xs : List (List Int)}
theorem Rows.kept {row : Option Nat} (h : Rows w base vs xs) (hg : w.grownBy w' row) (hne : ∀ (i : Nat) (v : Value) (g : Nat), vs[i]? = some v → v.ownBlock = some g → row ≠ some g) : Rows w' base vs xs := by
  refine ⟨h.len, fun i v x h1 h2 => ?_, h.apart⟩
  refine World.ownsRow.kept (h.own i v x h1 h2) hg ?_
  rcases hb : v.ownBlock with _ | g
  · exact .inl rfl
  · exact .inr fun e => hne i v g h1 hb e.symm
theorem Rows.on (h : Rows w base vs xs) (hb : Below w.heap.size w w') : Rows w' base vs xs := ⟨h.len, fun i v x h1 h2 => row_on (h.own i v x h1 h2) hb, h.apart⟩
theorem Rows.lt (h : Rows w base vs xs) {i g : Nat} {v : Value} (h1 : vs[i]? = some v) (h2 : v.ownBlock = some g) : base ≤ g ∧ g < w.heap.size := by
  have hl := (List.getElem?_eq_some_iff.1 h1).1
  exact World.ownsRow.lt (h.own i v _ h1 (List.getElem?_eq_getElem (by rw [← h.len]; exact hl))) _ h2
/-- One of the rows grows. -/
theorem Rows.grow (h : Rows w base vs xs) {i : Nat} {v v' : Value} {x x' : List Int} (hv : vs[i]? = some v) (hx : xs[i]? = some x) (ho : w'.ownsRow base 3 1 v' x'.length (x'.map intv)) (hg : Grew w v w' v') : Rows w' base (vs.set i v') (xs.set i x') := by
  have hi := (List.getElem?_eq_some_iff.1 hv).1
  have hix := (List.getElem?_eq_some_iff.1 hx).1
  have hmv : ∀ (j g : Nat) (u : Value), j ≠ i → vs[j]? = some u → u.ownBlock = some g → v'.ownBlock ≠ some g := by
    intro j g u hj h1 h2 h3
    rcases hg.moved with h4 | ⟨k, h4, h5⟩
    · rw [h3] at h4
      exact hj (h.apart j i u v g h1 hv h2 h4.symm)
    · rw [h3] at h4
      have := (h.lt h1 h2).2
      have : g = k := by simpa using h4
      omega
  refine ⟨by rw [List.length_set, List.length_set, h.len], fun j u y h1 h2 => ?_, fun j k u u' g h1 h2 h3 h4 => ?_⟩
  · by_cases hj : j = i
    · subst hj
      rw [List.getElem?_set_self hi] at h1
      rw [List.getElem?_set_self hix] at h2
      cases h1; cases h2
      exact ho
    · rw [List.getElem?_set_ne (Ne.symm hj)] at h1 h2
      refine World.ownsRow.kept (h.own j u y h1 h2) hg.grown ?_
      rcases hb : u.ownBlock with _ | g
      · exact .inl rfl
      · exact .inr fun e => hj (h.apart j i u v g h1 hv hb e.symm)
  · by_cases hj : j = i
    · by_cases hk : k = i
      · omega
      · subst hj
        rw [List.getElem?_set_self hi] at h1
        rw [List.getElem?_set_ne (Ne.symm hk)] at h2
        cases h1
        exact absurd h3 (hmv k g u' hk h2 h4)
    · by_cases hk : k = i
      · subst hk
        rw [List.getElem?_set_self hi] at h2
        rw [List.getElem?_set_ne (Ne.symm hj)] at h1
        cases h2
        exact absurd h4 (hmv j g u hj h1 h3)
      · rw [List.getElem?_set_ne (Ne.symm hj)] at h1
        rw [List.getElem?_set_ne (Ne.symm hk)] at h2
        exact h.apart j k u u' g h1 h2 h3 h4
/-- One more row, without any. -/
theorem Rows.more (h : Rows w base vs xs) : Rows w base (vs ++ [.slice none 0 0]) (xs ++ [[]]) := by
  have hnil : ∀ (j g : Nat) (u : Value), vs.length ≤ j → (vs ++ [.slice none 0 0])[j]? = some u → u.ownBlock = some g → False := by
    intro j g u hj h1 h2
    rw [List.getElem?_append_right hj] at h1
    have hl := (List.getElem?_eq_some_iff.1 h1).1
    have : j - vs.length = 0 := by simpa using hl
    rw [this] at h1
    cases h1
    cases h2
  refine ⟨by simp [h.len], fun j u y h1 h2 => ?_, fun j k u u' g h1 h2 h3 h4 => ?_⟩
  · by_cases hj : j < vs.length
    · rw [List.getElem?_append_left hj] at h1
      rw [List.getElem?_append_left (by rw [← h.len]; exact hj)] at h2
      exact h.own j u y h1 h2
    · rw [List.getElem?_append_right (by omega)] at h1
      rw [List.getElem?_append_right (by rw [← h.len]; omega)] at h2
      have hl := (List.getElem?_eq_some_iff.1 h1).1
      have e : j - vs.length = 0 := by simpa using hl
      rw [e] at h1
      rw [← h.len, e] at h2
      cases h1; cases h2
      exact World.ownsRow_nil _ _ _ _
  · by_cases hj : j < vs.length
    · by_cases hk : k < vs.length
      · rw [List.getElem?_append_left hj] at h1
        rw [List.getElem?_append_left hk] at h2
        exact h.apart j k u u' g h1 h2 h3 h4
      · exact (hnil k g u' (by omega) h2 h4).elim
    · exact (hnil j g u (by omega) h1 h3).elim
end
/-- A tree in memory. -/
structure TreeC (w : World) (base x : Nat) (ns : List Nd) (nv kv tv hv : Value) (us : List Value) : Prop where
  blk : w.heap[x]? = some (.cells #[nv, kv, tv, hv] 111 (0, 0))
  hx : base ≤ x
  nodes : w.ownsRow base 72 7 nv ns.length (ns.map ndC).flatten
  kids : w.ownsRow base 109 1 kv ns.length us
  rows : Rows w base (tv :: hv :: us) (topF ns :: hostsF ns :: (List.range ns.length).map (kidsF ns))
  small : ns.length ≤ 1024 ∧ (∀ n ∈ ns, n.above < (ns.length : Int))
def TreeAt (w : World) (base x : Nat) (ns : List Nd) : Prop := ∃ nv kv tv hv us, TreeC w base x ns nv kv tv hv us
theorem TreeC.on {w w' : World} {base x : Nat} {ns : List Nd} {nv kv tv hv : Value} {us : List Value} (h : TreeC w base x ns nv kv tv hv us) (hb : Below w.heap.size w w') : TreeC w' base x ns nv kv tv hv us :=
  ⟨(hb.block x (lt_of_blk h.blk)).trans h.blk, h.hx, row_on h.nodes hb, row_on h.kids hb, h.rows.on hb, h.small⟩
end Tree16
end Go.Proofs.YtcpokkkdmenmgaaDoor
