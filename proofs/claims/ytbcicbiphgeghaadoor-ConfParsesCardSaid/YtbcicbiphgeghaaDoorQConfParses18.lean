/- conf, the law: same: two configurations that are one. No condition. -/
import Derived.Test.YtbcicbiphgeghaaDoorQConfParses17
import Derived.Test.YtbcicbiphgeghaaDoorQConfParses9
import Derived.Test.YtbcicbiphgeghaaDoorQConfParses10
import Derived.Test.YtbcicbiphgeghaaDoorQConfParses8
namespace Go.Proofs.YtbcicbiphgeghaaDoor
open Go.RowKit Go.ChangeShapes Go.WideShapes Go.ChangeAt Go.Deep
namespace Conf18
open Addr05
/-- A configuration as a value that was there. -/
structure CfgR (w : World) (B : Nat) (c : Cfg) (A1 A2 A3 : Option Addr) (k1 k2 k3 : Nat) : Prop where
  nodes : IsT ndC 7 w B A1 c.nodes.length c.nodes
  vips : IsT vpC 7 w B A2 c.vips.length c.vips
  views : IsT vwC 5 w B A3 c.views.length c.views
theorem CfgV.open {w : World} {base : Nat} {c : Cfg} {v : Array Value} (h : CfgV w base c v) : ∃ A1 A2 A3 k1 k2 k3, v = cfC c (.slice A1 c.nodes.length k1) (.slice A2 c.vips.length k2) (.slice A3 c.views.length k3) ∧ CfgR w w.heap.size c A1 A2 A3 k1 k2 k3 := by
  obtain ⟨A1, k1, e1, -, -, h1⟩ := own_isv h.nodes
  obtain ⟨A2, k2, e2, -, -, h2⟩ := own_isv h.vips
  obtain ⟨A3, k3, e3, -, -, h3⟩ := own_isv h.views
  have := h.arr
  rw [e1, e2, e3] at this
  exact ⟨A1, A2, A3, k1, k2, k3, this, ⟨rfl, h1⟩, ⟨rfl, h2⟩, ⟨rfl, h3⟩⟩
theorem CfgR.on {w w' : World} {c : Cfg} {A1 A2 A3 : Option Addr} {k1 k2 k3 : Nat} (h : CfgR w w.heap.size c A1 A2 A3 k1 k2 k3) (hb : Below w.heap.size w w') : CfgR w' w'.heap.size c A1 A2 A3 k1 k2 k3 := ⟨h.nodes.on hb, h.vips.on hb, h.views.on hb⟩
theorem CfgV.on {w w' : World} {base : Nat} {c : Cfg} {v : Array Value} (h : CfgV w base c v) (hb : Below w.heap.size w w') : CfgV w' base c v := ⟨row_on h.nodes hb, row_on h.vips hb, row_on h.views hb, h.arr⟩
theorem CfgV.zero (w : World) (base : Nat) : CfgV w base zeroC (cfC zeroC (.slice none 0 0) (.slice none 0 0) (.slice none 0 0)) := ⟨World.ownsRow_nil _ _ _ _, World.ownsRow_nil _ _ _ _, World.ownsRow_nil _ _ _ _, rfl⟩
set_option maxRecDepth 20000 in
set_option maxHeartbeats 16000000 in
theorem same_any (c : Cfg) (hs : c.small 4096) (w : World) (A1 A2 A3 B1 B2 B3 : Option Addr) (k1 k2 k3 j1 j2 j3 : Nat) (ha : CfgR w w.heap.size c A1 A2 A3 k1 k2 k3) (hb : CfgR w w.heap.size c B1 B2 B3 j1 j2 j3) :
    Calls Tryd.prog 32 #[.agg (cfC c (.slice A1 c.nodes.length k1) (.slice A2 c.vips.length k2) (.slice A3 c.views.length k3)), .agg (cfC c (.slice B1 c.nodes.length j1) (.slice B2 c.vips.length j2) (.slice B3 c.views.length j3))] w fun e w' => e = .returned (.bool true) ∧ Below w.heap.size w w' := by
  obtain ⟨n1, hn1⟩ : ∃ n, c.nodes.length = n := ⟨_, rfl⟩
  obtain ⟨n2, hn2⟩ : ∃ n, c.vips.length = n := ⟨_, rfl⟩
  obtain ⟨n3, hn3⟩ : ∃ n, c.views.length = n := ⟨_, rfl⟩
  obtain ⟨hs1, hs2, hs3⟩ := hs
  obtain ⟨p1, p2, p3⟩ := ha
  obtain ⟨q1, q2, q3⟩ := hb
  rw [hn1] at hs1 p1 q1 ⊢
  rw [hn2] at hs2 p2 q2 ⊢
  rw [hn3] at hs3 p3 q3 ⊢
  clear hn1 hn2 hn3
  obtain ⟨ns, hns⟩ : ∃ l, c.nodes = l := ⟨_, rfl⟩
  obtain ⟨vs, hvs⟩ : ∃ l, c.vips = l := ⟨_, rfl⟩
  obtain ⟨ws, hws⟩ : ∃ l, c.views = l := ⟨_, rfl⟩
  rw [hns] at p1 q1
  rw [hvs] at p2 q2
  rw [hws] at p3 q3
  obtain ⟨F, hF⟩ : ∃ x, c.factor = x := ⟨_, rfl⟩
  obtain ⟨D, hD⟩ : ∃ x, c.domain = x := ⟨_, rfl⟩
  obtain ⟨⟨s0v, s0h, s0l⟩, hs0⟩ : ∃ x, c.s0 = x := ⟨_, rfl⟩
  obtain ⟨⟨s1v, s1h, s1l⟩, hs1'⟩ : ∃ x, c.s1 = x := ⟨_, rfl⟩
  unfold cfC
  rw [hF, hD, hs0, hs1']
  dsimp only
  clear hF hD hs0 hs1' hns hvs hws
  obtain ⟨w1, hw1⟩ : ∃ w1, w.alloc (.cells #[.slice A1 n1 k1, .slice A2 n2 k2, .slice A3 n3 k3, .int .i64 F, .int .i64 D, .bool s0v, .int .u64 (s0h : Int), .int .u64 (s0l : Int), .bool s1v, .int .u64 (s1h : Int), .int .u64 (s1l : Int)] 73) = w1 := ⟨_, rfl⟩
  have hb1 : Below w.heap.size w w1 := hw1 ▸ (Below.refl _ _).alloc (Nat.le_refl _) _
  have hg1 : w1.heap[w.heap.size]? = some (.cells #[.slice A1 n1 k1, .slice A2 n2 k2, .slice A3 n3 k3, .int .i64 F, .int .i64 D, .bool s0v, .int .u64 (s0h : Int), .int .u64 (s0l : Int), .bool s1v, .int .u64 (s1h : Int), .int .u64 (s1l : Int)] 73 (0, 0)) := hw1 ▸ blk_new _ _ _
  have hz1 : w1.heap.size = w.heap.size + 1 := by rw [← hw1]; simp
  obtain ⟨w2, hw2⟩ : ∃ w2, w1.alloc (.cells #[.slice B1 n1 j1, .slice B2 n2 j2, .slice B3 n3 j3, .int .i64 F, .int .i64 D, .bool s0v, .int .u64 (s0h : Int), .int .u64 (s0l : Int), .bool s1v, .int .u64 (s1h : Int), .int .u64 (s1l : Int)] 73) = w2 := ⟨_, rfl⟩
  have hb2' : Below w1.heap.size w1 w2 := hw2 ▸ (Below.refl _ _).alloc (Nat.le_refl _) _
  have hg2 : w2.heap[w1.heap.size]? = some (.cells #[.slice B1 n1 j1, .slice B2 n2 j2, .slice B3 n3 j3, .int .i64 F, .int .i64 D, .bool s0v, .int .u64 (s0h : Int), .int .u64 (s0l : Int), .bool s1v, .int .u64 (s1h : Int), .int .u64 (s1l : Int)] 73 (0, 0)) := by
    rw [← hw2]
    exact blk_new _ _ _
  have hz2 : w2.heap.size = w.heap.size + 2 := by rw [← hw2]; simp [hz1]
  have hg1b := blk_below hb2' (by omega) hg1
  have hbw := hb1.trans (hb2'.mono (by omega))
  obtain ⟨S, hS⟩ : ∃ S, w.heap.size = S := ⟨_, rfl⟩
  obtain ⟨S2, hS2⟩ : ∃ S2, w1.heap.size = S2 := ⟨_, rfl⟩
  rw [hS] at hg1b hz1 hz2 hbw p1 p2 p3 q1 q2 q3
  rw [hS2] at hg2 hz1
  have hlw : S + 2 ≤ w2.heap.size := by omega
  have hss : S < S2 := by omega
  have hss2 : S2 < w2.heap.size := by omega
  clear hb1 hb2' hg1 hz1 hz2
  have hbF : Below w.heap.size w w2 := by rw [hS]; exact hbw
  replace p1 := hide p1
  replace p2 := hide p2
  replace p3 := hide p3
  replace q1 := hide q1
  replace q2 := hide q2
  replace q3 := hide q3
  replace hbw := hide hbw
  replace hbF := hide hbF
  replace hg1b := hide hg1b
  replace hg2 := hide hg2
  go_enter Tryd.func32, Tryd.ntmps32
  go_upto_region 1 with fail
  clear hw1 hw2
  have hgA := blk_cell hg1b.out
  have hgB := blk_cell hg2.out
  have heq := eq_selfs s0v (s0h : Int) (s0l : Int) s1v (s1h : Int) (s1l : Int)
  go_wp2_with fail
  clear hgA hgB heq
  go_loopw [4, 5] (fun _ iv wr => ∃ i : Nat, i ≤ n1 ∧ iv = .int .i64 (i : Int) ∧ Below w2.heap.size w2 wr) (fun _ iv _ => n1 - (intOf iv).toNat)
  case atStart => exact ⟨0, by omega, rfl, Below.refl _ _⟩
  case round =>
    obtain ⟨i, hi, rfl, hbr⟩ := hrel
    have hgAr : wr.heap[S]? = _ := blk_below hbr (by omega) hg1b.out
    have hgBr : wr.heap[S2]? = _ := blk_below hbr (by omega) hg2.out
    have hgA := blk_cell hgAr
    have hgB := blk_cell hgBr
    have hzr := hbr.size
    by_cases hin : i < n1
    · have hlt : (i : Int) < (n1 : Int) := by omega
      obtain ⟨ba, oa, xa, rfl, hba, hia, hca⟩ := IsT.at (f := ndC) (size := 7) (fun _ => rfl) (by decide) (p1.out.below hbw.out) hin
      obtain ⟨bb, ob, xb, rfl, hbb, hib, hcb⟩ := IsT.at (f := ndC) (size := 7) (fun _ => rfl) (by decide) (q1.out.below hbw.out) hin
      obtain rfl := Option.some.inj (hia.symm.trans hib)
      have wi1 : IntKind.i64.wrap ((i : Int) + 1) = ((i + 1 : Nat) : Int) := by rw [wraps62 _ (by omega) (by omega)]; omega
      clear hia hib
      replace hbr := hide hbr
      go_upto_region 6 with fail
      refine wp_region_X (Below w2.heap.size) (by as_aux_lemma => kernel_rfl) ?_
      intro wd hbd
      have hbd2 := hbr.out.trans (hbd.mono (by omega))
      have la := fun l : RelW (Below w2.heap.size) wd => blk_cell (blk_below (hbd2.trans l.hk) (by omega) hg1b.out)
      have lb := fun l : RelW (Below w2.heap.size) wd => blk_cell (blk_below (hbd2.trans l.hk) (by omega) hg2.out)
      have la0 := fun l : RelW (Below w2.heap.size) wd => (show l.w.cell? ⟨ba, oa + i * 7, none⟩ = some (.string (str xa.name)) from ((hbd2.trans l.hk).cell (p := ⟨ba, oa + i * 7, none⟩) (by dsimp only; omega)).trans (hca 0 _ rfl))
      have lb0 := fun l : RelW (Below w2.heap.size) wd => (show l.w.cell? ⟨bb, ob + i * 7, none⟩ = some (.string (str xa.name)) from ((hbd2.trans l.hk).cell (p := ⟨bb, ob + i * 7, none⟩) (by dsimp only; omega)).trans (hcb 0 _ rfl))
      have la1 := fun l : RelW (Below w2.heap.size) wd => (show l.w.cell? ⟨ba, oa + i * 7 + 1, none⟩ = some (.int .i64 xa.kind) from ((hbd2.trans l.hk).cell (p := ⟨ba, oa + i * 7 + 1, none⟩) (by dsimp only; omega)).trans (hca 1 _ rfl))
      have lb1 := fun l : RelW (Below w2.heap.size) wd => (show l.w.cell? ⟨bb, ob + i * 7 + 1, none⟩ = some (.int .i64 xa.kind) from ((hbd2.trans l.hk).cell (p := ⟨bb, ob + i * 7 + 1, none⟩) (by dsimp only; omega)).trans (hcb 1 _ rfl))
      have la2 := fun l : RelW (Below w2.heap.size) wd => (show l.w.cell? ⟨ba, oa + i * 7 + 2, none⟩ = some (.int .i64 xa.above) from ((hbd2.trans l.hk).cell (p := ⟨ba, oa + i * 7 + 2, none⟩) (by dsimp only; omega)).trans (hca 2 _ rfl))
      have lb2 := fun l : RelW (Below w2.heap.size) wd => (show l.w.cell? ⟨bb, ob + i * 7 + 2, none⟩ = some (.int .i64 xa.above) from ((hbd2.trans l.hk).cell (p := ⟨bb, ob + i * 7 + 2, none⟩) (by dsimp only; omega)).trans (hcb 2 _ rfl))
      have la3 := fun l : RelW (Below w2.heap.size) wd => (show l.w.cell? ⟨ba, oa + i * 7 + 3, none⟩ = some (.int .i64 xa.weight) from ((hbd2.trans l.hk).cell (p := ⟨ba, oa + i * 7 + 3, none⟩) (by dsimp only; omega)).trans (hca 3 _ rfl))
      have lb3 := fun l : RelW (Below w2.heap.size) wd => (show l.w.cell? ⟨bb, ob + i * 7 + 3, none⟩ = some (.int .i64 xa.weight) from ((hbd2.trans l.hk).cell (p := ⟨bb, ob + i * 7 + 3, none⟩) (by dsimp only; omega)).trans (hcb 3 _ rfl))
      have la4 := fun l : RelW (Below w2.heap.size) wd => (show l.w.cell? ⟨ba, oa + i * 7 + 4, none⟩ = some (.bool xa.a.v6) from ((hbd2.trans l.hk).cell (p := ⟨ba, oa + i * 7 + 4, none⟩) (by dsimp only; omega)).trans (hca 4 _ rfl))
      have lb4 := fun l : RelW (Below w2.heap.size) wd => (show l.w.cell? ⟨bb, ob + i * 7 + 4, none⟩ = some (.bool xa.a.v6) from ((hbd2.trans l.hk).cell (p := ⟨bb, ob + i * 7 + 4, none⟩) (by dsimp only; omega)).trans (hcb 4 _ rfl))
      have la5 := fun l : RelW (Below w2.heap.size) wd => (show l.w.cell? ⟨ba, oa + i * 7 + 5, none⟩ = some (.int .u64 (xa.a.hi : Int)) from ((hbd2.trans l.hk).cell (p := ⟨ba, oa + i * 7 + 5, none⟩) (by dsimp only; omega)).trans (hca 5 _ rfl))
      have lb5 := fun l : RelW (Below w2.heap.size) wd => (show l.w.cell? ⟨bb, ob + i * 7 + 5, none⟩ = some (.int .u64 (xa.a.hi : Int)) from ((hbd2.trans l.hk).cell (p := ⟨bb, ob + i * 7 + 5, none⟩) (by dsimp only; omega)).trans (hcb 5 _ rfl))
      have la6 := fun l : RelW (Below w2.heap.size) wd => (show l.w.cell? ⟨ba, oa + i * 7 + 6, none⟩ = some (.int .u64 (xa.a.lo : Int)) from ((hbd2.trans l.hk).cell (p := ⟨ba, oa + i * 7 + 6, none⟩) (by dsimp only; omega)).trans (hca 6 _ rfl))
      have lb6 := fun l : RelW (Below w2.heap.size) wd => (show l.w.cell? ⟨bb, ob + i * 7 + 6, none⟩ = some (.int .u64 (xa.a.lo : Int)) from ((hbd2.trans l.hk).cell (p := ⟨bb, ob + i * 7 + 6, none⟩) (by dsimp only; omega)).trans (hcb 6 _ rfl))
      clear hca hcb hbd hgA hgB hgAr hgBr
      replace hbd2 := hide hbd2
      refine wpX_seg (Below w2.heap.size) 0 11 (fuel := 0) (by as_aux_lemma => kernel_rfl) (fun d _ _ _ _ h => by cases d <;> exact h) (by as_aux_lemma => kernel_rfl) (by as_aux_lemma => kernel_rfl) ?_
      simp only [List.drop_zero, List.take_succ_cons, List.take_zero]
      iterate 11 (refine wpQX_step (fun K hK => ?_); go_simp; refine hK _ ?_; clear hK K)
      refine wpQF_nil ?_
      clear la lb la0 lb0 la1 lb1 la2 lb2 la3 lb3 la4 lb4 la5 lb5 la6 lb6
      refine wpF_done (by as_aux_lemma => kernel_rfl) ?_ 0
      go_wp2_with fail
      exact ⟨⟨i + 1, by omega, by first | rfl | go_num, hbd2.out⟩, by simp only [intOf]; omega⟩
    · obtain rfl : i = n1 := by omega
      have hlt : ((i : Int) < (i : Int)) = False := by simp
      replace hbr := hide hbr
      go_wp2_with fail
      go_loopw [4, 6] (fun _ iv wr => ∃ i : Nat, i ≤ n2 ∧ iv = .int .i64 (i : Int) ∧ Below w2.heap.size w2 wr) (fun _ iv _ => n2 - (intOf iv).toNat)
      case atStart => exact ⟨0, by omega, rfl, hbr.out⟩
      case round =>
        clear hgA hgB hgAr hgBr hbr hlt
        obtain ⟨i, hi, rfl, hbr⟩ := hrel
        have hgAr : wr.heap[S]? = _ := blk_below hbr (by omega) hg1b.out
        have hgBr : wr.heap[S2]? = _ := blk_below hbr (by omega) hg2.out
        have hgA := blk_cell hgAr
        have hgB := blk_cell hgBr
        have hzr := hbr.size
        by_cases hin : i < n2
        · have hlt : (i : Int) < (n2 : Int) := by omega
          obtain ⟨ba, oa, xa, rfl, hba, hia, hca⟩ := IsT.at (f := vpC) (size := 7) (fun _ => rfl) (by decide) (p2.out.below hbw.out) hin
          obtain ⟨bb, ob, xb, rfl, hbb, hib, hcb⟩ := IsT.at (f := vpC) (size := 7) (fun _ => rfl) (by decide) (q2.out.below hbw.out) hin
          obtain rfl := Option.some.inj (hia.symm.trans hib)
          have wi1 : IntKind.i64.wrap ((i : Int) + 1) = ((i + 1 : Nat) : Int) := by rw [wraps62 _ (by omega) (by omega)]; omega
          clear hia hib
          replace hbr := hide hbr
          go_upto_region 11 with fail
          refine wp_region_X (Below w2.heap.size) (by as_aux_lemma => kernel_rfl) ?_
          intro wd hbd
          have hbd2 := hbr.out.trans (hbd.mono (by omega))
          have la := fun l : RelW (Below w2.heap.size) wd => blk_cell (blk_below (hbd2.trans l.hk) (by omega) hg1b.out)
          have lb := fun l : RelW (Below w2.heap.size) wd => blk_cell (blk_below (hbd2.trans l.hk) (by omega) hg2.out)
          have la0 := fun l : RelW (Below w2.heap.size) wd => (show l.w.cell? ⟨ba, oa + i * 7, none⟩ = some (.bool xa.a.v6) from ((hbd2.trans l.hk).cell (p := ⟨ba, oa + i * 7, none⟩) (by dsimp only; omega)).trans (hca 0 _ rfl))
          have lb0 := fun l : RelW (Below w2.heap.size) wd => (show l.w.cell? ⟨bb, ob + i * 7, none⟩ = some (.bool xa.a.v6) from ((hbd2.trans l.hk).cell (p := ⟨bb, ob + i * 7, none⟩) (by dsimp only; omega)).trans (hcb 0 _ rfl))
          have la1 := fun l : RelW (Below w2.heap.size) wd => (show l.w.cell? ⟨ba, oa + i * 7 + 1, none⟩ = some (.int .u64 (xa.a.hi : Int)) from ((hbd2.trans l.hk).cell (p := ⟨ba, oa + i * 7 + 1, none⟩) (by dsimp only; omega)).trans (hca 1 _ rfl))
          have lb1 := fun l : RelW (Below w2.heap.size) wd => (show l.w.cell? ⟨bb, ob + i * 7 + 1, none⟩ = some (.int .u64 (xa.a.hi : Int)) from ((hbd2.trans l.hk).cell (p := ⟨bb, ob + i * 7 + 1, none⟩) (by dsimp only; omega)).trans (hcb 1 _ rfl))
          have la2 := fun l : RelW (Below w2.heap.size) wd => (show l.w.cell? ⟨ba, oa + i * 7 + 2, none⟩ = some (.int .u64 (xa.a.lo : Int)) from ((hbd2.trans l.hk).cell (p := ⟨ba, oa + i * 7 + 2, none⟩) (by dsimp only; omega)).trans (hca 2 _ rfl))
          have lb2 := fun l : RelW (Below w2.heap.size) wd => (show l.w.cell? ⟨bb, ob + i * 7 + 2, none⟩ = some (.int .u64 (xa.a.lo : Int)) from ((hbd2.trans l.hk).cell (p := ⟨bb, ob + i * 7 + 2, none⟩) (by dsimp only; omega)).trans (hcb 2 _ rfl))
          have la3 := fun l : RelW (Below w2.heap.size) wd => (show l.w.cell? ⟨ba, oa + i * 7 + 3, none⟩ = some (.int .i64 xa.proto) from ((hbd2.trans l.hk).cell (p := ⟨ba, oa + i * 7 + 3, none⟩) (by dsimp only; omega)).trans (hca 3 _ rfl))
          have lb3 := fun l : RelW (Below w2.heap.size) wd => (show l.w.cell? ⟨bb, ob + i * 7 + 3, none⟩ = some (.int .i64 xa.proto) from ((hbd2.trans l.hk).cell (p := ⟨bb, ob + i * 7 + 3, none⟩) (by dsimp only; omega)).trans (hcb 3 _ rfl))
          have la4 := fun l : RelW (Below w2.heap.size) wd => (show l.w.cell? ⟨ba, oa + i * 7 + 4, none⟩ = some (.int .i64 xa.port) from ((hbd2.trans l.hk).cell (p := ⟨ba, oa + i * 7 + 4, none⟩) (by dsimp only; omega)).trans (hca 4 _ rfl))
          have lb4 := fun l : RelW (Below w2.heap.size) wd => (show l.w.cell? ⟨bb, ob + i * 7 + 4, none⟩ = some (.int .i64 xa.port) from ((hbd2.trans l.hk).cell (p := ⟨bb, ob + i * 7 + 4, none⟩) (by dsimp only; omega)).trans (hcb 4 _ rfl))
          have la5 := fun l : RelW (Below w2.heap.size) wd => (show l.w.cell? ⟨ba, oa + i * 7 + 5, none⟩ = some (.int .i64 xa.copies) from ((hbd2.trans l.hk).cell (p := ⟨ba, oa + i * 7 + 5, none⟩) (by dsimp only; omega)).trans (hca 5 _ rfl))
          have lb5 := fun l : RelW (Below w2.heap.size) wd => (show l.w.cell? ⟨bb, ob + i * 7 + 5, none⟩ = some (.int .i64 xa.copies) from ((hbd2.trans l.hk).cell (p := ⟨bb, ob + i * 7 + 5, none⟩) (by dsimp only; omega)).trans (hcb 5 _ rfl))
          have la6 := fun l : RelW (Below w2.heap.size) wd => (show l.w.cell? ⟨ba, oa + i * 7 + 6, none⟩ = some (.bool xa.nat) from ((hbd2.trans l.hk).cell (p := ⟨ba, oa + i * 7 + 6, none⟩) (by dsimp only; omega)).trans (hca 6 _ rfl))
          have lb6 := fun l : RelW (Below w2.heap.size) wd => (show l.w.cell? ⟨bb, ob + i * 7 + 6, none⟩ = some (.bool xa.nat) from ((hbd2.trans l.hk).cell (p := ⟨bb, ob + i * 7 + 6, none⟩) (by dsimp only; omega)).trans (hcb 6 _ rfl))
          clear hca hcb hbd hgA hgB hgAr hgBr
          replace hbd2 := hide hbd2
          refine wpX_seg (Below w2.heap.size) 0 11 (fuel := 0) (by as_aux_lemma => kernel_rfl) (fun d _ _ _ _ h => by cases d <;> exact h) (by as_aux_lemma => kernel_rfl) (by as_aux_lemma => kernel_rfl) ?_
          simp only [List.drop_zero, List.take_succ_cons, List.take_zero]
          iterate 11 (refine wpQX_step (fun K hK => ?_); go_simp; refine hK _ ?_; clear hK K)
          refine wpQF_nil ?_
          clear la lb la0 lb0 la1 lb1 la2 lb2 la3 lb3 la4 lb4 la5 lb5 la6 lb6
          refine wpF_done (by as_aux_lemma => kernel_rfl) ?_ 0
          go_wp2_with fail
          exact ⟨⟨i + 1, by omega, by first | rfl | go_num, hbd2.out⟩, by simp only [intOf]; omega⟩
        · obtain rfl : i = n2 := by omega
          have hlt : ((i : Int) < (i : Int)) = False := by simp
          replace hbr := hide hbr
          go_wp2_with fail
          go_loopw [4, 7] (fun _ iv wr => ∃ i : Nat, i ≤ n3 ∧ iv = .int .i64 (i : Int) ∧ Below w2.heap.size w2 wr) (fun _ iv _ => n3 - (intOf iv).toNat)
          case atStart => exact ⟨0, by omega, rfl, hbr.out⟩
          case round =>
            clear hgA hgB hgAr hgBr hbr hlt
            obtain ⟨i, hi, rfl, hbr⟩ := hrel
            have hgAr : wr.heap[S]? = _ := blk_below hbr (by omega) hg1b.out
            have hgBr : wr.heap[S2]? = _ := blk_below hbr (by omega) hg2.out
            have hgA := blk_cell hgAr
            have hgB := blk_cell hgBr
            have hzr := hbr.size
            by_cases hin : i < n3
            · have hlt : (i : Int) < (n3 : Int) := by omega
              obtain ⟨ba, oa, xa, rfl, hba, hia, hca⟩ := IsT.at (f := vwC) (size := 5) (fun _ => rfl) (by decide) (p3.out.below hbw.out) hin
              obtain ⟨bb, ob, xb, rfl, hbb, hib, hcb⟩ := IsT.at (f := vwC) (size := 5) (fun _ => rfl) (by decide) (q3.out.below hbw.out) hin
              obtain rfl := Option.some.inj (hia.symm.trans hib)
              have wi1 : IntKind.i64.wrap ((i : Int) + 1) = ((i + 1 : Nat) : Int) := by rw [wraps62 _ (by omega) (by omega)]; omega
              clear hia hib
              replace hbr := hide hbr
              go_upto_region 16 with fail
              refine wp_region_X (Below w2.heap.size) (by as_aux_lemma => kernel_rfl) ?_
              intro wd hbd
              have hbd2 := hbr.out.trans (hbd.mono (by omega))
              have la := fun l : RelW (Below w2.heap.size) wd => blk_cell (blk_below (hbd2.trans l.hk) (by omega) hg1b.out)
              have lb := fun l : RelW (Below w2.heap.size) wd => blk_cell (blk_below (hbd2.trans l.hk) (by omega) hg2.out)
              have la0 := fun l : RelW (Below w2.heap.size) wd => (show l.w.cell? ⟨ba, oa + i * 5, none⟩ = some (.bool xa.a.v6) from ((hbd2.trans l.hk).cell (p := ⟨ba, oa + i * 5, none⟩) (by dsimp only; omega)).trans (hca 0 _ rfl))
              have lb0 := fun l : RelW (Below w2.heap.size) wd => (show l.w.cell? ⟨bb, ob + i * 5, none⟩ = some (.bool xa.a.v6) from ((hbd2.trans l.hk).cell (p := ⟨bb, ob + i * 5, none⟩) (by dsimp only; omega)).trans (hcb 0 _ rfl))
              have la1 := fun l : RelW (Below w2.heap.size) wd => (show l.w.cell? ⟨ba, oa + i * 5 + 1, none⟩ = some (.int .u64 (xa.a.hi : Int)) from ((hbd2.trans l.hk).cell (p := ⟨ba, oa + i * 5 + 1, none⟩) (by dsimp only; omega)).trans (hca 1 _ rfl))
              have lb1 := fun l : RelW (Below w2.heap.size) wd => (show l.w.cell? ⟨bb, ob + i * 5 + 1, none⟩ = some (.int .u64 (xa.a.hi : Int)) from ((hbd2.trans l.hk).cell (p := ⟨bb, ob + i * 5 + 1, none⟩) (by dsimp only; omega)).trans (hcb 1 _ rfl))
              have la2 := fun l : RelW (Below w2.heap.size) wd => (show l.w.cell? ⟨ba, oa + i * 5 + 2, none⟩ = some (.int .u64 (xa.a.lo : Int)) from ((hbd2.trans l.hk).cell (p := ⟨ba, oa + i * 5 + 2, none⟩) (by dsimp only; omega)).trans (hca 2 _ rfl))
              have lb2 := fun l : RelW (Below w2.heap.size) wd => (show l.w.cell? ⟨bb, ob + i * 5 + 2, none⟩ = some (.int .u64 (xa.a.lo : Int)) from ((hbd2.trans l.hk).cell (p := ⟨bb, ob + i * 5 + 2, none⟩) (by dsimp only; omega)).trans (hcb 2 _ rfl))
              have la3 := fun l : RelW (Below w2.heap.size) wd => (show l.w.cell? ⟨ba, oa + i * 5 + 3, none⟩ = some (.int .i64 xa.bits) from ((hbd2.trans l.hk).cell (p := ⟨ba, oa + i * 5 + 3, none⟩) (by dsimp only; omega)).trans (hca 3 _ rfl))
              have lb3 := fun l : RelW (Below w2.heap.size) wd => (show l.w.cell? ⟨bb, ob + i * 5 + 3, none⟩ = some (.int .i64 xa.bits) from ((hbd2.trans l.hk).cell (p := ⟨bb, ob + i * 5 + 3, none⟩) (by dsimp only; omega)).trans (hcb 3 _ rfl))
              have la4 := fun l : RelW (Below w2.heap.size) wd => (show l.w.cell? ⟨ba, oa + i * 5 + 4, none⟩ = some (.int .i64 xa.level) from ((hbd2.trans l.hk).cell (p := ⟨ba, oa + i * 5 + 4, none⟩) (by dsimp only; omega)).trans (hca 4 _ rfl))
              have lb4 := fun l : RelW (Below w2.heap.size) wd => (show l.w.cell? ⟨bb, ob + i * 5 + 4, none⟩ = some (.int .i64 xa.level) from ((hbd2.trans l.hk).cell (p := ⟨bb, ob + i * 5 + 4, none⟩) (by dsimp only; omega)).trans (hcb 4 _ rfl))
              clear hca hcb hbd hgA hgB hgAr hgBr
              replace hbd2 := hide hbd2
              refine wpX_seg (Below w2.heap.size) 0 11 (fuel := 0) (by as_aux_lemma => kernel_rfl) (fun d _ _ _ _ h => by cases d <;> exact h) (by as_aux_lemma => kernel_rfl) (by as_aux_lemma => kernel_rfl) ?_
              simp only [List.drop_zero, List.take_succ_cons, List.take_zero]
              iterate 11 (refine wpQX_step (fun K hK => ?_); go_simp; refine hK _ ?_; clear hK K)
              refine wpQF_nil ?_
              clear la lb la0 lb0 la1 lb1 la2 lb2 la3 lb3 la4 lb4
              refine wpF_done (by as_aux_lemma => kernel_rfl) ?_ 0
              go_wp2_with fail
              exact ⟨⟨i + 1, by omega, by first | rfl | go_num, hbd2.out⟩, by simp only [intOf]; omega⟩
            · obtain rfl : i = n3 := by omega
              have hlt : ((i : Int) < (i : Int)) = False := by simp
              replace hbr := hide hbr
              go_wp2_with fail
              go_ret
              exact ⟨rfl, hbF.out.trans (hbr.out.mono (by omega))⟩
end Conf18
end Go.Proofs.YtbcicbiphgeghaaDoor
/- conf, the law: awake. Condition: the cell of bytealg.MaxLen. -/
namespace Go.Proofs.YtbcicbiphgeghaaDoor
open Go.RowKit Go.ChangeShapes Go.WideShapes Go.ChangeAt Go.Deep
namespace Conf18
open Addr05
theorem alloc_cf (o : Oper) (h : o.op = .alloc 73) (ρ : Operand → Value) (w : World) : (execOp ρ o).run Tryd.prog w = .ok (.value (.pointer (some ⟨w.heap.size, 0, none⟩))) (w.alloc (.cells #[.slice none 0 0, .slice none 0 0, .slice none 0 0, .int .i64 0, .int .i64 0, .bool false, .int .u64 0, .int .u64 0, .bool false, .int .u64 0, .int .u64 0] 73)) := by
  obtain ⟨d, op, t, ps, af, g⟩ := o
  dsimp only at h
  subst h
  kernel_rfl
theorem exA_err : confF exA = .error (1, 5) := by
  have h := exA_is
  rcases hc : confF exA with p | c
  · rw [hc] at h
    obtain ⟨a, b⟩ := p
    obtain ⟨h1, h2⟩ := of_decide_eq_true h
    dsimp only at h1 h2
    rw [h1, h2]
  · rw [hc] at h; cases h
theorem exB_ok : ∃ c, confF exB = .ok c ∧ c.nodes.length = 4 ∧ (∃ nd, c.nodes[3]? = some nd ∧ nd.above = 2) ∧ c.factor = 140 := by
  have h := exB_is
  rcases hc : confF exB with p | c
  · rw [hc] at h; cases h
  · rw [hc] at h
    obtain ⟨h1, h2, h3⟩ := of_decide_eq_true h
    refine ⟨c, rfl, h1, ⟨c.nodes[3], List.getElem?_eq_getElem (by omega), ?_⟩, h3⟩
    rw [List.getD_eq_getElem?_getD, List.getElem?_eq_getElem (by omega)] at h2
    exact h2
set_option maxRecDepth 20000 in
set_option maxHeartbeats 8000000 in
theorem cawake_any (w : World) (hm : MaxAt w) : Calls Tryd.prog 33 #[] w fun e w' => e = .returned (.bool true) ∧ Below w.heap.size w w' := by
  have qa : Calls Tryd.prog 30 #[.string ⟨#[102, 97, 99, 116, 111, 114, 32, 57, 57]⟩] w fun e w' => e = .returned (.tuple #[.agg #[.slice none 0 0, .slice none 0 0, .slice none 0 0, .int .i64 0, .int .i64 0, .bool false, .int .u64 0, .int .u64 0, .bool false, .int .u64 0, .int .u64 0], .int .i64 1, .int .i64 5]) ∧ Below w.heap.size w w' := by
    refine (confParse_any exA (by decide) w hm).mono ?_
    rintro e w' ⟨hb, ⟨p, hp, he⟩ | ⟨c, v, hp, -⟩⟩
    · rw [exA_err] at hp
      cases hp
      exact ⟨he, hb⟩
    · rw [exA_err] at hp; cases hp
  obtain ⟨c, hc, hn4, ⟨nd, hnd, hab⟩, hf⟩ := exB_ok
  have qb : ∀ w', MaxAt w' → Calls Tryd.prog 30 #[.string ⟨#[108, 101, 118, 101, 108, 32, 97, 10, 122, 111, 110, 101, 32, 98, 32, 97, 10, 114, 97, 99, 107, 32, 99, 32, 98, 32, 55, 10, 104, 111, 115, 116, 32, 100, 32, 99, 32, 53, 32, 49, 46, 50, 46, 51, 46, 52]⟩] w' fun e w2 => (∃ A1 A2 A3 k1 k2 k3, e = .returned (.tuple #[.agg (cfC c (.slice A1 c.nodes.length k1) (.slice A2 c.vips.length k2) (.slice A3 c.views.length k3)), .int .i64 0, .int .i64 0]) ∧ CfgR w2 w2.heap.size c A1 A2 A3 k1 k2 k3) ∧ Below w'.heap.size w' w2 := fun w' hm' => by
    refine (confParse_any exB (by decide) w' hm').mono ?_
    rintro e w2 ⟨hb, ⟨p, hp, he⟩ | ⟨c', v, hp, he, hv, -⟩⟩
    · rw [hc] at hp; cases hp
    · rw [hc] at hp
      cases hp
      obtain ⟨A1, A2, A3, k1, k2, k3, rfl, hR⟩ := hv.open
      exact ⟨⟨A1, A2, A3, k1, k2, k3, he, hR⟩, hb⟩
  clear hc
  replace qa := hide qa
  replace qb := hide qb
  replace hm := hide hm
  replace hnd := hide hnd
  go_enter Tryd.func33, Tryd.ntmps33
  go_upto_region 1 with fail
  apply wp_region_lit
  refine wpList_plain rfl fun K hK => ?_
  go_simp
  refine (qa.out).mono ?_
  rintro e w1 ⟨rfl, hb1⟩
  go_simp
  refine hK _ _ ?_
  clear hK K
  iterate 4 (refine wpList_plain rfl fun K hK => ?_; go_simp; refine hK _ _ ?_; clear hK K)
  refine wpl_new rfl rfl 73 _ (alloc_cf _ rfl) 1 rfl (.tmp 9) rfl _ (fun _ => rfl) (fun _ => rfl) rfl (by kernel_rfl) (cf_one _ _ _ rfl rfl rfl 0 0 false 0 0 false 0 0) ?_
  intro w2 hg2 hb2 hz2
  iterate 2 (refine wpList_plain rfl fun K hK => ?_; go_simp; refine hK _ _ ?_; clear hK K)
  refine wpList_nil ?_
  go_simp
  have hbw := hb1.trans (hb2.mono hb1.size)
  have hm2 := hm.out.below hbw
  have qb2 := qb.out w2 hm2
  have hz1 := hbw.size
  clear hg2 hb1 hb2 qa qb
  replace hbw := hide hbw
  replace qb2 := hide qb2
  go_upto_region 2 with fail
  apply wp_region_lit
  refine wpList_plain rfl fun K hK => ?_
  go_simp
  refine (qb2.out).mono ?_
  rintro e w3 ⟨⟨A1, A2, A3, k1, k2, k3, rfl, hR⟩, hb3⟩
  go_simp
  refine hK _ _ ?_
  clear hK K
  iterate 4 (refine wpList_plain rfl fun K hK => ?_; go_simp; refine hK _ _ ?_; clear hK K)
  refine wpl_new rfl rfl 73 _ (alloc_cf _ rfl) 4 rfl (.tmp 14) rfl _ (fun _ => rfl) (fun _ => rfl) rfl (by kernel_rfl) (cf_one _ _ _ rfl rfl rfl _ _ _ _ _ _ _ _) ?_
  intro w4 hg4 hb4 hz4
  iterate 2 (refine wpList_plain rfl fun K hK => ?_; go_simp; refine hK _ _ ?_; clear hK K)
  refine wpList_nil ?_
  go_simp
  have hR4 := hR.on hb4
  have hz3 := hb3.size
  have hbe := hbw.out.trans ((hb3.mono (by omega)).trans (hb4.mono (by omega)))
  obtain ⟨b, off, nd', hA1, hbk, hni, hcell⟩ := IsT.at (f := ndC) (size := 7) (i := 3) (fun _ => rfl) (by decide) hR4.nodes (by omega)
  obtain rfl := Option.some.inj (hnd.out.symm.trans hni)
  have kA : w4.cell? ⟨b, off + 21 + 2, none⟩ = some (.int .i64 nd.above) := hcell 2 _ rfl
  have kA2 : w4.cell? ⟨b, off + 23, none⟩ = some (.int .i64 nd.above) := hcell 2 _ rfl
  rw [hab] at kA kA2
  subst hA1
  have g0 : w4.cell? ⟨w3.heap.size, 0, none⟩ = some (.slice (some ⟨b, off, none⟩) 4 k1) := blk_cell hg4 0
  have g3 : w4.cell? ⟨w3.heap.size, 3, none⟩ = some (.int .i64 140) := by
    rw [← hf]
    exact blk_cell hg4 3
  clear hcell hni hg4 hb3 hb4 hR hR4
  replace hbe := hide hbe
  go_wp2_with fail
  go_ret
  exact ⟨rfl, hbe.out⟩
end Conf18
end Go.Proofs.YtbcicbiphgeghaaDoor
/- The walk of ConfParses: it answers true. Condition: the cell of bytealg.MaxLen. -/
namespace Go.Proofs.YtbcicbiphgeghaaDoor
open Go.RowKit Go.ChangeShapes Go.WideShapes Go.ChangeAt Go.Deep
namespace Conf18
open Addr05
/-- What a reader comes to, as values that were there. -/
def ReadEnd (s : List UInt8) (w w' : World) (e : Ending) : Prop :=
  Below w.heap.size w w' ∧ ∃ (c : Cfg) (no : Nat) (en : Int) (A1 A2 A3 : Option Addr) (k1 k2 k3 : Nat), (match confF s with | .error p => (zeroC, p.1, p.2) | .ok c => (c, 0, 0)) = (c, no, en) ∧ c.small 4096 ∧
    e = .returned (.tuple #[.agg (cfC c (.slice A1 c.nodes.length k1) (.slice A2 c.vips.length k2) (.slice A3 c.views.length k3)), .int .i64 (no : Int), .int .i64 en]) ∧ CfgR w' w'.heap.size c A1 A2 A3 k1 k2 k3
theorem readEnd_of {s : List UInt8} {w w' : World} {e : Ending} (h : ParseEnd s w w' e) : ReadEnd s w w' e := by
  obtain ⟨hb, ⟨p, hp, he⟩ | ⟨c, v, hp, he, hv, hs⟩⟩ := h
  · obtain ⟨A1, A2, A3, k1, k2, k3, e1, hR⟩ := (CfgV.zero w' w'.heap.size).open
    rw [e1] at he
    exact ⟨hb, zeroC, p.1, p.2, A1, A2, A3, k1, k2, k3, by rw [hp], ⟨Nat.zero_le _, Nat.zero_le _, Nat.zero_le _⟩, he, hR⟩
  · obtain ⟨A1, A2, A3, k1, k2, k3, e1, hR⟩ := hv.open
    rw [e1] at he
    exact ⟨hb, c, 0, 0, A1, A2, A3, k1, k2, k3, by rw [hp], hs, he, hR⟩
set_option maxRecDepth 20000 in
set_option maxHeartbeats 8000000 in
theorem cparses_walk (s : List UInt8) (hsl : s.length ≤ 9223372036854775807) (w : World) (hm : MaxAt w) :
    Calls Tryd.prog 7 #[.string (str s)] w fun e w' => e = .returned (.bool true) ∧ Below w.heap.size w w' := by
  have hz : (str s).size = s.length := size_str s
  obtain ⟨s1, hs1⟩ : ∃ x, s.take 2000 = x := ⟨_, rfl⟩
  have hl1 : s1.length ≤ 2000 := by rw [← hs1, List.length_take]; omega
  replace hm := hide hm
  replace hs1 := hide hs1
  go_enter Tryd.func7, Tryd.ntmps7
  go_upto_if 11 with fail
  go_cut [0] (fun sv wx => sv = .string (str s1) ∧ w = wx)
  case first =>
    by_cases h80 : 2000 < s.length
    · have t1 : decide ((2000 : Int) < (s.length : Int)) = true := by rw [decide_eq_true_eq]; omega
      have i1 : (2000 : Int) ≤ (s.length : Int) := by omega
      have ex : (str s).extract 0 2000 = str s1 := by rw [← hs1.out]; exact str_extract s 0 2000
      replace hs1 := hide hs1
      go_wp2_with fail
      go_meet
      exact ⟨by first | rfl | rw [ex], rfl⟩
    · have t1 : decide ((2000 : Int) < (s.length : Int)) = false := by rw [decide_eq_false_iff_not]; omega
      have e1 : s1 = s := by rw [← hs1.out]; exact List.take_of_length_le (by omega)
      replace h80 := hide h80
      subst e1
      go_wp2_with fail
      go_meet
      exact ⟨rfl, rfl⟩
  case rest =>
    obtain ⟨rfl, rfl⟩ := hcut
    clear hs1 hz hsl
    have qa := (confParse_any s1 (by omega) w hm.out).mono fun e w' h => readEnd_of h
    have qb := fun w' (hm' : MaxAt w') => (parsed_any s1 (by omega) w' hm').mono fun e w' h => readEnd_of h
    unfold ReadEnd at qa qb
    replace qa := hide qa
    replace qb := hide qb
    go_upto_region 3 with fail
    apply wp_region_lit
    iterate 1 (refine wpList_plain rfl fun K hK => ?_; go_simp; refine hK _ _ ?_; clear hK K)
    refine wpList_plain rfl fun K hK => ?_
    go_simp
    refine (qa.out).mono ?_
    rintro e w1 ⟨hb1, c, no, en, A1, A2, A3, k1, k2, k3, hcf, hs, rfl, hR⟩
    go_simp
    refine hK _ _ ?_
    clear hK K
    iterate 4 (refine wpList_plain rfl fun K hK => ?_; go_simp; refine hK _ _ ?_; clear hK K)
    refine wpl_new rfl rfl 73 _ (alloc_cf _ rfl) 3 rfl (.tmp 17) rfl _ (fun _ => rfl) (fun _ => rfl) rfl (by kernel_rfl) (cf_one _ _ _ rfl rfl rfl _ _ _ _ _ _ _ _) ?_
    intro w2 hg2 hb2 hz2
    iterate 2 (refine wpList_plain rfl fun K hK => ?_; go_simp; refine hK _ _ ?_; clear hK K)
    refine wpList_nil ?_
    go_simp
    obtain ⟨g3, hg3⟩ : ∃ g, w1.heap.size = g := ⟨_, rfl⟩
    rw [hg3] at hg2 hb2 hz2
    have hz1 := hb1.size
    have hbw := hb1.trans (hb2.mono (by omega))
    have hR2 := hR.on (by rw [hg3]; exact hb2)
    have qb2 := qb.out w2 (hm.out.below hbw)
    clear qa qb hb1 hb2 hR
    rw [hg3]
    replace hg2 := hide hg2
    replace hbw := hide hbw
    replace hR2 := hide hR2
    replace qb2 := hide qb2
    replace hs := hide hs
    replace hcf := hide hcf
    go_upto_region 4 with fail
    apply wp_region_lit
    iterate 1 (refine wpList_plain rfl fun K hK => ?_; go_simp; refine hK _ _ ?_; clear hK K)
    refine wpList_plain rfl fun K hK => ?_
    go_simp
    refine (qb2.out).mono ?_
    rintro e w3 ⟨hb3, c', no', en', B1, B2, B3, j1, j2, j3, hcf', -, rfl, hR3⟩
    obtain ⟨rfl, hcf3⟩ : c' = c ∧ (no', en') = (no, en) := by
      have := hcf'.symm.trans hcf.out
      exact ⟨congrArg Prod.fst this, congrArg Prod.snd this⟩
    obtain ⟨rfl, rfl⟩ : no' = no ∧ en' = en := ⟨congrArg Prod.fst hcf3, congrArg Prod.snd hcf3⟩
    clear hcf3 hcf' hcf
    go_simp
    refine hK _ _ ?_
    clear hK K
    iterate 4 (refine wpList_plain rfl fun K hK => ?_; go_simp; refine hK _ _ ?_; clear hK K)
    refine wpl_new rfl rfl 73 _ (alloc_cf _ rfl) 6 rfl (.tmp 23) rfl _ (fun _ => rfl) (fun _ => rfl) rfl (by kernel_rfl) (cf_one _ _ _ rfl rfl rfl _ _ _ _ _ _ _ _) ?_
    intro w4 hg4 hb4 hz4
    iterate 2 (refine wpList_plain rfl fun K hK => ?_; go_simp; refine hK _ _ ?_; clear hK K)
    refine wpList_nil ?_
    go_simp
    have hz3 := hb3.size
    have hbe := hbw.out.trans ((hb3.mono (by omega)).trans (hb4.mono (by omega)))
    have hg2b := blk_below hb4 (by omega) (blk_below hb3 (by omega) hg2.out)
    have qs := same_any c' hs.out w4 A1 A2 A3 B1 B2 B3 k1 k2 k3 j1 j2 j3 ((hR2.out.on hb3).on hb4) (hR3.on hb4)
    have hm4 := hm.out.below hbe
    clear hb3 hb4 hR2 hR3 hs hg2 hbw
    replace hbe := hide hbe
    replace qs := hide qs
    replace hm4 := hide hm4
    replace hg2b := hide hg2b
    replace hg4 := hide hg4
    go_upto_region 5 with fail
    apply wp_region_lit
    refine wpl_ld rfl 73 (.tmp 3) rfl g3 rfl (cfC c' (.slice A1 c'.nodes.length k1) (.slice A2 c'.vips.length k2) (.slice A3 c'.views.length k3)) _ hg2b.out Tryd.underlying73 rfl (by kernel_rfl) ?_
    refine wpl_ld rfl 73 (.tmp 6) rfl w3.heap.size rfl (cfC c' (.slice B1 c'.nodes.length j1) (.slice B2 c'.vips.length j2) (.slice B3 c'.views.length j3)) _ hg4.out Tryd.underlying73 rfl (by kernel_rfl) ?_
    refine wpList_plain rfl fun K hK => ?_
    go_simp
    refine (qs.out).mono ?_
    rintro e w5 ⟨rfl, hb5⟩
    go_simp
    refine hK _ _ ?_
    clear hK K
    have hbf := hbe.out.trans (hb5.mono hbe.out.size)
    have qw := cawake_any w5 (hm4.out.below hb5)
    clear hb5 hm4 qs hbe
    replace hbf := hide hbf
    replace qw := hide qw
    iterate 11 (refine wpList_step fun K hK => ?_; go_simp; refine hK _ _ ?_; clear hK K)
    refine wpList_step fun K hK => ?_
    go_simp
    refine qw.out.mono ?_
    rintro e w6 ⟨rfl, hb6⟩
    go_simp
    refine hK _ _ ?_
    clear hK K
    iterate 2 (refine wpList_step fun K hK => ?_; go_simp; refine hK _ _ ?_; clear hK K)
    refine wpList_nil ?_
    go_simp
    have hbz := hbf.out.trans (hb6.mono hbf.out.size)
    clear hb6 qw
    replace hbz := hide hbz
    go_wp2_with fail
    go_ret
    exact ⟨rfl, hbz.out⟩
theorem cparses_row (s : ByteArray) (w : World) (hs : s.size ≤ maxLen) (hm : MaxAt w) :
    Calls Tryd.prog 7 #[.string s] w fun e w' => e = .returned (.bool true) ∧ Below w.heap.size w w' := by
  have h := cparses_walk s.data.toList (by unfold maxLen at hs; rw [Array.length_toList]; exact hs) w hm
  rw [str_data] at h
  exact h
end Conf18
end Go.Proofs.YtbcicbiphgeghaaDoor
