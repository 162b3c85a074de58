/- valid: Same of two configurations that are one. No condition. -/
import Derived.Test.YtcpokkkdmenmgaaGreatDoorQStorePlays15
import Derived.Test.YtcpokkkdmenmgaaGreatDoorQStorePlays17
import Derived.Test.YtcpokkkdmenmgaaGreatDoorQStorePlays11
import Derived.Test.YtcpokkkdmenmgaaGreatDoorQStorePlays16
import Derived.Test.YtcpokkkdmenmgaaGreatDoorQStorePlays18
namespace Go.Proofs.YtcpokkkdmenmgaaGreatDoor
open Go.RowKit Go.ChangeShapes Go.WideShapes Go.ChangeAt Go.Deep
namespace Val19
open Conf18 (Nd Vp Vw Cfg zA ndC vpC vwC cfC CfgR CfgV lt_of_blk isRel_below)
open Addr05
set_option maxRecDepth 20000 in
set_option maxHeartbeats 16000000 in
theorem vsame_any (c : Cfg) (hs : c.small 4096) (w : World) (A1 A2 A3 B1 B2 B3 : Option Addr) (k1 k2 k3 j1 j2 j3 : Nat) (ha : CfgR w w.heap.size c A1 A2 A3 k1 k2 k3) (hb : CfgR w w.heap.size c B1 B2 B3 j1 j2 j3) :
    Calls Tryz.prog 9 #[.agg (cfC c (.slice A1 c.nodes.length k1) (.slice A2 c.vips.length k2) (.slice A3 c.views.length k3)), .agg (cfC c (.slice B1 c.nodes.length j1) (.slice B2 c.vips.length j2) (.slice B3 c.views.length j3))] w fun e w' => e = .returned (.bool true) ∧ Below w.heap.size w w' := by
  obtain ⟨n1, hn1⟩ : ∃ n, c.nodes.length = n := ⟨_, rfl⟩
  obtain ⟨n2, hn2⟩ : ∃ n, c.vips.length = n := ⟨_, rfl⟩
  obtain ⟨n3, hn3⟩ : ∃ n, c.views.length = n := ⟨_, rfl⟩
  obtain ⟨hs1, hs2, hs3⟩ := hs
  obtain ⟨p1, p2, p3⟩ := ha
  obtain ⟨q1, q2, q3⟩ := hb
  rw [hn1] at hs1 p1 q1 ⊢
  rw [hn2] at hs2 p2 q2 ⊢
  rw [hn3] at hs3 p3 q3 ⊢
  clear hn1 hn2 hn3
  obtain ⟨ns, hns⟩ : ∃ l, c.nodes = l := ⟨_, rfl⟩
  obtain ⟨vs, hvs⟩ : ∃ l, c.vips = l := ⟨_, rfl⟩
  obtain ⟨ws, hws⟩ : ∃ l, c.views = l := ⟨_, rfl⟩
  rw [hns] at p1 q1
  rw [hvs] at p2 q2
  rw [hws] at p3 q3
  obtain ⟨F, hF⟩ : ∃ x, c.factor = x := ⟨_, rfl⟩
  obtain ⟨D, hD⟩ : ∃ x, c.domain = x := ⟨_, rfl⟩
  obtain ⟨⟨s0v, s0h, s0l⟩, hs0⟩ : ∃ x, c.s0 = x := ⟨_, rfl⟩
  obtain ⟨⟨s1v, s1h, s1l⟩, hs1'⟩ : ∃ x, c.s1 = x := ⟨_, rfl⟩
  unfold cfC
  rw [hF, hD, hs0, hs1']
  dsimp only
  clear hF hD hs0 hs1' hns hvs hws
  obtain ⟨w1, hw1⟩ : ∃ w1, w.alloc (.cells #[.slice A1 n1 k1, .slice A2 n2 k2, .slice A3 n3 k3, .int .i64 F, .int .i64 D, .bool s0v, .int .u64 (s0h : Int), .int .u64 (s0l : Int), .bool s1v, .int .u64 (s1h : Int), .int .u64 (s1l : Int)] 34) = w1 := ⟨_, rfl⟩
  have hb1 : Below w.heap.size w w1 := hw1 ▸ (Below.refl _ _).alloc (Nat.le_refl _) _
  have hg1 : w1.heap[w.heap.size]? = some (.cells #[.slice A1 n1 k1, .slice A2 n2 k2, .slice A3 n3 k3, .int .i64 F, .int .i64 D, .bool s0v, .int .u64 (s0h : Int), .int .u64 (s0l : Int), .bool s1v, .int .u64 (s1h : Int), .int .u64 (s1l : Int)] 34 (0, 0)) := hw1 ▸ blk_new _ _ _
  have hz1 : w1.heap.size = w.heap.size + 1 := by rw [← hw1]; simp
  obtain ⟨w2, hw2⟩ : ∃ w2, w1.alloc (.cells #[.slice B1 n1 j1, .slice B2 n2 j2, .slice B3 n3 j3, .int .i64 F, .int .i64 D, .bool s0v, .int .u64 (s0h : Int), .int .u64 (s0l : Int), .bool s1v, .int .u64 (s1h : Int), .int .u64 (s1l : Int)] 34) = w2 := ⟨_, rfl⟩
  have hb2' : Below w1.heap.size w1 w2 := hw2 ▸ (Below.refl _ _).alloc (Nat.le_refl _) _
  have hg2 : w2.heap[w1.heap.size]? = some (.cells #[.slice B1 n1 j1, .slice B2 n2 j2, .slice B3 n3 j3, .int .i64 F, .int .i64 D, .bool s0v, .int .u64 (s0h : Int), .int .u64 (s0l : Int), .bool s1v, .int .u64 (s1h : Int), .int .u64 (s1l : Int)] 34 (0, 0)) := by
    rw [← hw2]
    exact blk_new _ _ _
  have hz2 : w2.heap.size = w.heap.size + 2 := by rw [← hw2]; simp [hz1]
  have hg1b := blk_below hb2' (by omega) hg1
  have hbw := hb1.trans (hb2'.mono (by omega))
  obtain ⟨S, hS⟩ : ∃ S, w.heap.size = S := ⟨_, rfl⟩
  obtain ⟨S2, hS2⟩ : ∃ S2, w1.heap.size = S2 := ⟨_, rfl⟩
  rw [hS] at hg1b hz1 hz2 hbw p1 p2 p3 q1 q2 q3
  rw [hS2] at hg2 hz1
  have hlw : S + 2 ≤ w2.heap.size := by omega
  have hss : S < S2 := by omega
  have hss2 : S2 < w2.heap.size := by omega
  clear hb1 hb2' hg1 hz1 hz2
  have hbF : Below w.heap.size w w2 := by rw [hS]; exact hbw
  replace p1 := hide p1
  replace p2 := hide p2
  replace p3 := hide p3
  replace q1 := hide q1
  replace q2 := hide q2
  replace q3 := hide q3
  replace hbw := hide hbw
  replace hbF := hide hbF
  replace hg1b := hide hg1b
  replace hg2 := hide hg2
  go_enter Tryz.func9, Tryz.ntmps9
  go_upto_region 1 with fail
  clear hw1 hw2
  have hgA := blk_cell hg1b.out
  have hgB := blk_cell hg2.out
  have heq := Conf18.eq_selfs s0v (s0h : Int) (s0l : Int) s1v (s1h : Int) (s1l : Int)
  go_wp2_with fail
  clear hgA hgB heq
  go_loopw [4, 5, 57] (fun _ _ iv wr => ∃ i : Nat, i ≤ n1 ∧ iv = .int .i64 (i : Int) ∧ Below w2.heap.size w2 wr) (fun _ _ iv _ => n1 - (intOf iv).toNat)
  case atStart => exact ⟨0, by omega, rfl, Below.refl _ _⟩
  case round =>
    obtain ⟨i, hi, rfl, hbr⟩ := hrel
    have hgAr : wr.heap[S]? = _ := blk_below hbr (by omega) hg1b.out
    have hgBr : wr.heap[S2]? = _ := blk_below hbr (by omega) hg2.out
    have hgA := blk_cell hgAr
    have hgB := blk_cell hgBr
    have hzr := hbr.size
    by_cases hin : i < n1
    · have hlt : (i : Int) < (n1 : Int) := by omega
      obtain ⟨ba, oa, xa, rfl, hba, hia, hca⟩ := IsT.at (f := ndC) (size := 7) (fun _ => rfl) (by decide) (p1.out.below hbw.out) hin
      obtain ⟨bb, ob, xb, rfl, hbb, hib, hcb⟩ := IsT.at (f := ndC) (size := 7) (fun _ => rfl) (by decide) (q1.out.below hbw.out) hin
      obtain rfl := Option.some.inj (hia.symm.trans hib)
      have wi1 : IntKind.i64.wrap ((i : Int) + 1) = ((i + 1 : Nat) : Int) := by rw [wraps62 _ (by omega) (by omega)]; omega
      clear hia hib
      replace hbr := hide hbr
      go_upto_region 6 with fail
      refine wp_region_X (Below w2.heap.size) (by as_aux_lemma => kernel_rfl) ?_
      intro wd hbd
      have hbd2 := hbr.out.trans (hbd.mono (by omega))
      have la := fun l : RelW (Below w2.heap.size) wd => blk_cell (blk_below (hbd2.trans l.hk) (by omega) hg1b.out)
      have lb := fun l : RelW (Below w2.heap.size) wd => blk_cell (blk_below (hbd2.trans l.hk) (by omega) hg2.out)
      have la0 := fun l : RelW (Below w2.heap.size) wd => (show l.w.cell? ⟨ba, oa + i * 7, none⟩ = some (.string (str xa.name)) from ((hbd2.trans l.hk).cell (p := ⟨ba, oa + i * 7, none⟩) (by dsimp only; omega)).trans (hca 0 _ rfl))
      have lb0 := fun l : RelW (Below w2.heap.size) wd => (show l.w.cell? ⟨bb, ob + i * 7, none⟩ = some (.string (str xa.name)) from ((hbd2.trans l.hk).cell (p := ⟨bb, ob + i * 7, none⟩) (by dsimp only; omega)).trans (hcb 0 _ rfl))
      have la1 := fun l : RelW (Below w2.heap.size) wd => (show l.w.cell? ⟨ba, oa + i * 7 + 1, none⟩ = some (.int .i64 xa.kind) from ((hbd2.trans l.hk).cell (p := ⟨ba, oa + i * 7 + 1, none⟩) (by dsimp only; omega)).trans (hca 1 _ rfl))
      have lb1 := fun l : RelW (Below w2.heap.size) wd => (show l.w.cell? ⟨bb, ob + i * 7 + 1, none⟩ = some (.int .i64 xa.kind) from ((hbd2.trans l.hk).cell (p := ⟨bb, ob + i * 7 + 1, none⟩) (by dsimp only; omega)).trans (hcb 1 _ rfl))
      have la2 := fun l : RelW (Below w2.heap.size) wd => (show l.w.cell? ⟨ba, oa + i * 7 + 2, none⟩ = some (.int .i64 xa.above) from ((hbd2.trans l.hk).cell (p := ⟨ba, oa + i * 7 + 2, none⟩) (by dsimp only; omega)).trans (hca 2 _ rfl))
      have lb2 := fun l : RelW (Below w2.heap.size) wd => (show l.w.cell? ⟨bb, ob + i * 7 + 2, none⟩ = some (.int .i64 xa.above) from ((hbd2.trans l.hk).cell (p := ⟨bb, ob + i * 7 + 2, none⟩) (by dsimp only; omega)).trans (hcb 2 _ rfl))
      have la3 := fun l : RelW (Below w2.heap.size) wd => (show l.w.cell? ⟨ba, oa + i * 7 + 3, none⟩ = some (.int .i64 xa.weight) from ((hbd2.trans l.hk).cell (p := ⟨ba, oa + i * 7 + 3, none⟩) (by dsimp only; omega)).trans (hca 3 _ rfl))
      have lb3 := fun l : RelW (Below w2.heap.size) wd => (show l.w.cell? ⟨bb, ob + i * 7 + 3, none⟩ = some (.int .i64 xa.weight) from ((hbd2.trans l.hk).cell (p := ⟨bb, ob + i * 7 + 3, none⟩) (by dsimp only; omega)).trans (hcb 3 _ rfl))
      have la4 := fun l : RelW (Below w2.heap.size) wd => (show l.w.cell? ⟨ba, oa + i * 7 + 4, none⟩ = some (.bool xa.a.v6) from ((hbd2.trans l.hk).cell (p := ⟨ba, oa + i * 7 + 4, none⟩) (by dsimp only; omega)).trans (hca 4 _ rfl))
      have lb4 := fun l : RelW (Below w2.heap.size) wd => (show l.w.cell? ⟨bb, ob + i * 7 + 4, none⟩ = some (.bool xa.a.v6) from ((hbd2.trans l.hk).cell (p := ⟨bb, ob + i * 7 + 4, none⟩) (by dsimp only; omega)).trans (hcb 4 _ rfl))
      have la5 := fun l : RelW (Below w2.heap.size) wd => (show l.w.cell? ⟨ba, oa + i * 7 + 5, none⟩ = some (.int .u64 (xa.a.hi : Int)) from ((hbd2.trans l.hk).cell (p := ⟨ba, oa + i * 7 + 5, none⟩) (by dsimp only; omega)).trans (hca 5 _ rfl))
      have lb5 := fun l : RelW (Below w2.heap.size) wd => (show l.w.cell? ⟨bb, ob + i * 7 + 5, none⟩ = some (.int .u64 (xa.a.hi : Int)) from ((hbd2.trans l.hk).cell (p := ⟨bb, ob + i * 7 + 5, none⟩) (by dsimp only; omega)).trans (hcb 5 _ rfl))
      have la6 := fun l : RelW (Below w2.heap.size) wd => (show l.w.cell? ⟨ba, oa + i * 7 + 6, none⟩ = some (.int .u64 (xa.a.lo : Int)) from ((hbd2.trans l.hk).cell (p := ⟨ba, oa + i * 7 + 6, none⟩) (by dsimp only; omega)).trans (hca 6 _ rfl))
      have lb6 := fun l : RelW (Below w2.heap.size) wd => (show l.w.cell? ⟨bb, ob + i * 7 + 6, none⟩ = some (.int .u64 (xa.a.lo : Int)) from ((hbd2.trans l.hk).cell (p := ⟨bb, ob + i * 7 + 6, none⟩) (by dsimp only; omega)).trans (hcb 6 _ rfl))
      clear hca hcb hbd hgA hgB hgAr hgBr
      replace hbd2 := hide hbd2
      refine wpX_seg (Below w2.heap.size) 0 11 (fuel := 0) (by as_aux_lemma => kernel_rfl) (fun d _ _ _ _ h => by cases d <;> exact h) (by as_aux_lemma => kernel_rfl) (by as_aux_lemma => kernel_rfl) ?_
      simp only [List.drop_zero, List.take_succ_cons, List.take_zero]
      iterate 11 (refine wpQX_step (fun K hK => ?_); go_simp; refine hK _ ?_; clear hK K)
      refine wpQF_nil ?_
      clear la lb la0 lb0 la1 lb1 la2 lb2 la3 lb3 la4 lb4 la5 lb5 la6 lb6
      refine wpF_done (by as_aux_lemma => kernel_rfl) ?_ 0
      go_wp2_with fail
      exact ⟨⟨i + 1, by omega, by first | rfl | go_num, hbd2.out⟩, by simp only [intOf]; omega⟩
    · obtain rfl : i = n1 := by omega
      have hlt : ((i : Int) < (i : Int)) = False := by simp
      replace hbr := hide hbr
      go_wp2_with fail
      go_loopw [4, 6, 75] (fun _ _ iv wr => ∃ i : Nat, i ≤ n2 ∧ iv = .int .i64 (i : Int) ∧ Below w2.heap.size w2 wr) (fun _ _ iv _ => n2 - (intOf iv).toNat)
      case atStart => exact ⟨0, by omega, rfl, hbr.out⟩
      case round =>
        clear hgA hgB hgAr hgBr hbr hlt
        obtain ⟨i, hi, rfl, hbr⟩ := hrel
        have hgAr : wr.heap[S]? = _ := blk_below hbr (by omega) hg1b.out
        have hgBr : wr.heap[S2]? = _ := blk_below hbr (by omega) hg2.out
        have hgA := blk_cell hgAr
        have hgB := blk_cell hgBr
        have hzr := hbr.size
        by_cases hin : i < n2
        · have hlt : (i : Int) < (n2 : Int) := by omega
          obtain ⟨ba, oa, xa, rfl, hba, hia, hca⟩ := IsT.at (f := vpC) (size := 7) (fun _ => rfl) (by decide) (p2.out.below hbw.out) hin
          obtain ⟨bb, ob, xb, rfl, hbb, hib, hcb⟩ := IsT.at (f := vpC) (size := 7) (fun _ => rfl) (by decide) (q2.out.below hbw.out) hin
          obtain rfl := Option.some.inj (hia.symm.trans hib)
          have wi1 : IntKind.i64.wrap ((i : Int) + 1) = ((i + 1 : Nat) : Int) := by rw [wraps62 _ (by omega) (by omega)]; omega
          clear hia hib
          replace hbr := hide hbr
          go_upto_region 12 with fail
          refine wp_region_X (Below w2.heap.size) (by as_aux_lemma => kernel_rfl) ?_
          intro wd hbd
          have hbd2 := hbr.out.trans (hbd.mono (by omega))
          have la := fun l : RelW (Below w2.heap.size) wd => blk_cell (blk_below (hbd2.trans l.hk) (by omega) hg1b.out)
          have lb := fun l : RelW (Below w2.heap.size) wd => blk_cell (blk_below (hbd2.trans l.hk) (by omega) hg2.out)
          have la0 := fun l : RelW (Below w2.heap.size) wd => (show l.w.cell? ⟨ba, oa + i * 7, none⟩ = some (.bool xa.a.v6) from ((hbd2.trans l.hk).cell (p := ⟨ba, oa + i * 7, none⟩) (by dsimp only; omega)).trans (hca 0 _ rfl))
          have lb0 := fun l : RelW (Below w2.heap.size) wd => (show l.w.cell? ⟨bb, ob + i * 7, none⟩ = some (.bool xa.a.v6) from ((hbd2.trans l.hk).cell (p := ⟨bb, ob + i * 7, none⟩) (by dsimp only; omega)).trans (hcb 0 _ rfl))
          have la1 := fun l : RelW (Below w2.heap.size) wd => (show l.w.cell? ⟨ba, oa + i * 7 + 1, none⟩ = some (.int .u64 (xa.a.hi : Int)) from ((hbd2.trans l.hk).cell (p := ⟨ba, oa + i * 7 + 1, none⟩) (by dsimp only; omega)).trans (hca 1 _ rfl))
          have lb1 := fun l : RelW (Below w2.heap.size) wd => (show l.w.cell? ⟨bb, ob + i * 7 + 1, none⟩ = some (.int .u64 (xa.a.hi : Int)) from ((hbd2.trans l.hk).cell (p := ⟨bb, ob + i * 7 + 1, none⟩) (by dsimp only; omega)).trans (hcb 1 _ rfl))
          have la2 := fun l : RelW (Below w2.heap.size) wd => (show l.w.cell? ⟨ba, oa + i * 7 + 2, none⟩ = some (.int .u64 (xa.a.lo : Int)) from ((hbd2.trans l.hk).cell (p := ⟨ba, oa + i * 7 + 2, none⟩) (by dsimp only; omega)).trans (hca 2 _ rfl))
          have lb2 := fun l : RelW (Below w2.heap.size) wd => (show l.w.cell? ⟨bb, ob + i * 7 + 2, none⟩ = some (.int .u64 (xa.a.lo : Int)) from ((hbd2.trans l.hk).cell (p := ⟨bb, ob + i * 7 + 2, none⟩) (by dsimp only; omega)).trans (hcb 2 _ rfl))
          have la3 := fun l : RelW (Below w2.heap.size) wd => (show l.w.cell? ⟨ba, oa + i * 7 + 3, none⟩ = some (.int .i64 xa.proto) from ((hbd2.trans l.hk).cell (p := ⟨ba, oa + i * 7 + 3, none⟩) (by dsimp only; omega)).trans (hca 3 _ rfl))
          have lb3 := fun l : RelW (Below w2.heap.size) wd => (show l.w.cell? ⟨bb, ob + i * 7 + 3, none⟩ = some (.int .i64 xa.proto) from ((hbd2.trans l.hk).cell (p := ⟨bb, ob + i * 7 + 3, none⟩) (by dsimp only; omega)).trans (hcb 3 _ rfl))
          have la4 := fun l : RelW (Below w2.heap.size) wd => (show l.w.cell? ⟨ba, oa + i * 7 + 4, none⟩ = some (.int .i64 xa.port) from ((hbd2.trans l.hk).cell (p := ⟨ba, oa + i * 7 + 4, none⟩) (by dsimp only; omega)).trans (hca 4 _ rfl))
          have lb4 := fun l : RelW (Below w2.heap.size) wd => (show l.w.cell? ⟨bb, ob + i * 7 + 4, none⟩ = some (.int .i64 xa.port) from ((hbd2.trans l.hk).cell (p := ⟨bb, ob + i * 7 + 4, none⟩) (by dsimp only; omega)).trans (hcb 4 _ rfl))
          have la5 := fun l : RelW (Below w2.heap.size) wd => (show l.w.cell? ⟨ba, oa + i * 7 + 5, none⟩ = some (.int .i64 xa.copies) from ((hbd2.trans l.hk).cell (p := ⟨ba, oa + i * 7 + 5, none⟩) (by dsimp only; omega)).trans (hca 5 _ rfl))
          have lb5 := fun l : RelW (Below w2.heap.size) wd => (show l.w.cell? ⟨bb, ob + i * 7 + 5, none⟩ = some (.int .i64 xa.copies) from ((hbd2.trans l.hk).cell (p := ⟨bb, ob + i * 7 + 5, none⟩) (by dsimp only; omega)).trans (hcb 5 _ rfl))
          have la6 := fun l : RelW (Below w2.heap.size) wd => (show l.w.cell? ⟨ba, oa + i * 7 + 6, none⟩ = some (.bool xa.nat) from ((hbd2.trans l.hk).cell (p := ⟨ba, oa + i * 7 + 6, none⟩) (by dsimp only; omega)).trans (hca 6 _ rfl))
          have lb6 := fun l : RelW (Below w2.heap.size) wd => (show l.w.cell? ⟨bb, ob + i * 7 + 6, none⟩ = some (.bool xa.nat) from ((hbd2.trans l.hk).cell (p := ⟨bb, ob + i * 7 + 6, none⟩) (by dsimp only; omega)).trans (hcb 6 _ rfl))
          clear hca hcb hbd hgA hgB hgAr hgBr
          replace hbd2 := hide hbd2
          refine wpX_seg (Below w2.heap.size) 0 11 (fuel := 0) (by as_aux_lemma => kernel_rfl) (fun d _ _ _ _ h => by cases d <;> exact h) (by as_aux_lemma => kernel_rfl) (by as_aux_lemma => kernel_rfl) ?_
          simp only [List.drop_zero, List.take_succ_cons, List.take_zero]
          iterate 11 (refine wpQX_step (fun K hK => ?_); go_simp; refine hK _ ?_; clear hK K)
          refine wpQF_nil ?_
          clear la lb la0 lb0 la1 lb1 la2 lb2 la3 lb3 la4 lb4 la5 lb5 la6 lb6
          refine wpF_done (by as_aux_lemma => kernel_rfl) ?_ 0
          go_wp2_with fail
          exact ⟨⟨i + 1, by omega, by first | rfl | go_num, hbd2.out⟩, by simp only [intOf]; omega⟩
        · obtain rfl : i = n2 := by omega
          have hlt : ((i : Int) < (i : Int)) = False := by simp
          replace hbr := hide hbr
          go_wp2_with fail
          go_loopw [4, 7, 93] (fun _ _ iv wr => ∃ i : Nat, i ≤ n3 ∧ iv = .int .i64 (i : Int) ∧ Below w2.heap.size w2 wr) (fun _ _ iv _ => n3 - (intOf iv).toNat)
          case atStart => exact ⟨0, by omega, rfl, hbr.out⟩
          case round =>
            clear hgA hgB hgAr hgBr hbr hlt
            obtain ⟨i, hi, rfl, hbr⟩ := hrel
            have hgAr : wr.heap[S]? = _ := blk_below hbr (by omega) hg1b.out
            have hgBr : wr.heap[S2]? = _ := blk_below hbr (by omega) hg2.out
            have hgA := blk_cell hgAr
            have hgB := blk_cell hgBr
            have hzr := hbr.size
            by_cases hin : i < n3
            · have hlt : (i : Int) < (n3 : Int) := by omega
              obtain ⟨ba, oa, xa, rfl, hba, hia, hca⟩ := IsT.at (f := vwC) (size := 5) (fun _ => rfl) (by decide) (p3.out.below hbw.out) hin
              obtain ⟨bb, ob, xb, rfl, hbb, hib, hcb⟩ := IsT.at (f := vwC) (size := 5) (fun _ => rfl) (by decide) (q3.out.below hbw.out) hin
              obtain rfl := Option.some.inj (hia.symm.trans hib)
              have wi1 : IntKind.i64.wrap ((i : Int) + 1) = ((i + 1 : Nat) : Int) := by rw [wraps62 _ (by omega) (by omega)]; omega
              clear hia hib
              replace hbr := hide hbr
              go_upto_region 18 with fail
              refine wp_region_X (Below w2.heap.size) (by as_aux_lemma => kernel_rfl) ?_
              intro wd hbd
              have hbd2 := hbr.out.trans (hbd.mono (by omega))
              have la := fun l : RelW (Below w2.heap.size) wd => blk_cell (blk_below (hbd2.trans l.hk) (by omega) hg1b.out)
              have lb := fun l : RelW (Below w2.heap.size) wd => blk_cell (blk_below (hbd2.trans l.hk) (by omega) hg2.out)
              have la0 := fun l : RelW (Below w2.heap.size) wd => (show l.w.cell? ⟨ba, oa + i * 5, none⟩ = some (.bool xa.a.v6) from ((hbd2.trans l.hk).cell (p := ⟨ba, oa + i * 5, none⟩) (by dsimp only; omega)).trans (hca 0 _ rfl))
              have lb0 := fun l : RelW (Below w2.heap.size) wd => (show l.w.cell? ⟨bb, ob + i * 5, none⟩ = some (.bool xa.a.v6) from ((hbd2.trans l.hk).cell (p := ⟨bb, ob + i * 5, none⟩) (by dsimp only; omega)).trans (hcb 0 _ rfl))
              have la1 := fun l : RelW (Below w2.heap.size) wd => (show l.w.cell? ⟨ba, oa + i * 5 + 1, none⟩ = some (.int .u64 (xa.a.hi : Int)) from ((hbd2.trans l.hk).cell (p := ⟨ba, oa + i * 5 + 1, none⟩) (by dsimp only; omega)).trans (hca 1 _ rfl))
              have lb1 := fun l : RelW (Below w2.heap.size) wd => (show l.w.cell? ⟨bb, ob + i * 5 + 1, none⟩ = some (.int .u64 (xa.a.hi : Int)) from ((hbd2.trans l.hk).cell (p := ⟨bb, ob + i * 5 + 1, none⟩) (by dsimp only; omega)).trans (hcb 1 _ rfl))
              have la2 := fun l : RelW (Below w2.heap.size) wd => (show l.w.cell? ⟨ba, oa + i * 5 + 2, none⟩ = some (.int .u64 (xa.a.lo : Int)) from ((hbd2.trans l.hk).cell (p := ⟨ba, oa + i * 5 + 2, none⟩) (by dsimp only; omega)).trans (hca 2 _ rfl))
              have lb2 := fun l : RelW (Below w2.heap.size) wd => (show l.w.cell? ⟨bb, ob + i * 5 + 2, none⟩ = some (.int .u64 (xa.a.lo : Int)) from ((hbd2.trans l.hk).cell (p := ⟨bb, ob + i * 5 + 2, none⟩) (by dsimp only; omega)).trans (hcb 2 _ rfl))
              have la3 := fun l : RelW (Below w2.heap.size) wd => (show l.w.cell? ⟨ba, oa + i * 5 + 3, none⟩ = some (.int .i64 xa.bits) from ((hbd2.trans l.hk).cell (p := ⟨ba, oa + i * 5 + 3, none⟩) (by dsimp only; omega)).trans (hca 3 _ rfl))
              have lb3 := fun l : RelW (Below w2.heap.size) wd => (show l.w.cell? ⟨bb, ob + i * 5 + 3, none⟩ = some (.int .i64 xa.bits) from ((hbd2.trans l.hk).cell (p := ⟨bb, ob + i * 5 + 3, none⟩) (by dsimp only; omega)).trans (hcb 3 _ rfl))
              have la4 := fun l : RelW (Below w2.heap.size) wd => (show l.w.cell? ⟨ba, oa + i * 5 + 4, none⟩ = some (.int .i64 xa.level) from ((hbd2.trans l.hk).cell (p := ⟨ba, oa + i * 5 + 4, none⟩) (by dsimp only; omega)).trans (hca 4 _ rfl))
              have lb4 := fun l : RelW (Below w2.heap.size) wd => (show l.w.cell? ⟨bb, ob + i * 5 + 4, none⟩ = some (.int .i64 xa.level) from ((hbd2.trans l.hk).cell (p := ⟨bb, ob + i * 5 + 4, none⟩) (by dsimp only; omega)).trans (hcb 4 _ rfl))
              clear hca hcb hbd hgA hgB hgAr hgBr
              replace hbd2 := hide hbd2
              refine wpX_seg (Below w2.heap.size) 0 11 (fuel := 0) (by as_aux_lemma => kernel_rfl) (fun d _ _ _ _ h => by cases d <;> exact h) (by as_aux_lemma => kernel_rfl) (by as_aux_lemma => kernel_rfl) ?_
              simp only [List.drop_zero, List.take_succ_cons, List.take_zero]
              iterate 11 (refine wpQX_step (fun K hK => ?_); go_simp; refine hK _ ?_; clear hK K)
              refine wpQF_nil ?_
              clear la lb la0 lb0 la1 lb1 la2 lb2 la3 lb3 la4 lb4
              refine wpF_done (by as_aux_lemma => kernel_rfl) ?_ 0
              go_wp2_with fail
              exact ⟨⟨i + 1, by omega, by first | rfl | go_num, hbd2.out⟩, by simp only [intOf]; omega⟩
            · obtain rfl : i = n3 := by omega
              have hlt : ((i : Int) < (i : Int)) = False := by simp
              replace hbr := hide hbr
              go_wp2_with fail
              go_ret
              exact ⟨rfl, hbF.out.trans (hbr.out.mono (by omega))⟩
end Val19
end Go.Proofs.YtcpokkkdmenmgaaGreatDoor
/- tree: New. Condition: fewer than 2^40 nodes, names of at most 2^40 bytes. -/
namespace Go.Proofs.YtcpokkkdmenmgaaGreatDoor
open Go.RowKit Go.ChangeShapes Go.WideShapes Go.ChangeAt Go.Deep
namespace Tree16
open Conf18 (Nd ndC lt_of_blk nd_one alloc_nd isRel_below)
theorem right_zero {n : Nd} {l : List Nd} (h : rightF n l = 0) : 1 ≤ n.kind ∧ n.kind ≤ 4 ∧ n.above < (l.length : Int) := by
  unfold rightF at h
  split at h
  · cases h
  · rename_i h1
    split at h
    · cases h
    · split at h
      · cases h
      · rename_i h3
        rw [not_or, not_or] at h1
        refine ⟨by omega, by omega, ?_⟩
        by_cases hk : n.kind = 1
        · have : n.above = -1 := by
            by_cases e : n.above = -1
            · exact e
            · exact absurd (.inl ⟨hk, e⟩) h3
          omega
        · rcases Int.lt_or_le n.above (l.length : Int) with h4 | h4
          · exact h4
          · exact absurd (.inr ⟨by omega, .inr h4⟩) h3
def TNewEnd (l : List Nd) (w w' : World) (e : Ending) : Prop :=
  Below w.heap.size w w' ∧ ((∃ p, treeF l = some p ∧ 0 < p.2 ∧ e = .returned (.tuple #[.pointer none, .int .i64 (p.1 : Int), .int .i64 (p.2 : Int)])) ∨ (treeF l = none ∧ ∃ x, e = .returned (.tuple #[.pointer (some ⟨x, 0, none⟩), .int .i64 0, .int .i64 0]) ∧ TreeAt w' w.heap.size x l))
set_option maxRecDepth 20000 in
set_option maxHeartbeats 16000000 in
theorem tnew_any (l : List Nd) (k cap : Nat) (A : Option Addr) (w : World) (hl : IsT ndC 7 w w.heap.size A k l) (hcap : k ≤ cap) (_hcm : cap ≤ maxLen) (hk : k ≤ 1099511627776) (hnm : ∀ x ∈ l, x.name.length ≤ 1099511627776) :
    Calls Tryz.prog 35 #[.slice A k cap] w fun e w' => TNewEnd l w w' e := by
  have hlen := hl.1
  obtain ⟨w1, hw1⟩ : ∃ w1, w.alloc (.cells #[.slice none 0 0, .slice none 0 0, .slice none 0 0, .slice none 0 0] 90) = w1 := ⟨_, rfl⟩
  have hB : Below w.heap.size w w1 := hw1 ▸ (Below.refl _ _).alloc (Nat.le_refl _) _
  have hg : w1.heap[w.heap.size]? = some (.cells #[.slice none 0 0, .slice none 0 0, .slice none 0 0, .slice none 0 0] 90 (0, 0)) := hw1 ▸ blk_new _ _ _
  have hT0 : TreeAt w1 w.heap.size w.heap.size (l.take 0) := by
    refine ⟨_, _, _, _, [], hg, Nat.le_refl _, World.ownsRow_nil _ _ _ _, World.ownsRow_nil _ _ _ _, ⟨rfl, ?_, ?_⟩, Nat.zero_le _, fun n hn => by cases hn⟩
    · intro i v x h1 h2
      rcases i with _ | _ | i
      · cases h1; cases h2; exact World.ownsRow_nil _ _ _ _
      · cases h1; cases h2; exact World.ownsRow_nil _ _ _ _
      · simp at h1
    · intro i j v u g h1 h2 h3 h4
      rcases i with _ | _ | i
      · cases h1; cases h3
      · cases h1; cases h3
      · simp at h1
  obtain ⟨b, hb⟩ : ∃ b, w.heap.size = b := ⟨_, rfl⟩
  unfold TNewEnd
  rw [hb] at hB hT0 hl
  clear hg
  replace hB := hide hB
  replace hT0 := hide hT0
  replace hl := hide hl
  replace hnm := hide hnm
  go_enter Tryz.func35, Tryz.ntmps35
  go_upto_region 2 with fail
  clear hw1
  go_wp2_with fail
  go_loopw [2, 3, 4, 6, 7, 8, 13] (fun _ _ _ _ _ _ iv wr => ∃ i : Nat, i ≤ k ∧ iv = .int .i64 (i : Int) ∧ treeE l i = none ∧ TreeAt wr b b (l.take i) ∧ Below b w wr) (fun _ _ _ _ _ _ iv _ => k - (intOf iv).toNat)
  case atStart => exact ⟨0, by omega, rfl, rfl, hT0.out, hB.out⟩
  case round =>
    obtain ⟨i, hi, rfl, hE, hT, hBr⟩ := hrel
    by_cases hin : i < k
    · have hlt : (i : Int) < (k : Int) := by omega
      obtain ⟨bl, off, n, rfl, hbl, hni, hcell⟩ := IsT.at (f := ndC) (size := 7) (fun _ => rfl) (by decide) (hl.out.below hBr) hin
      have hnl := hnm.out n (List.mem_of_getElem? hni)
      have htl : (l.take i).length = i := by rw [List.length_take]; omega
      have htk : l.take i ++ [n] = l.take (i + 1) := by rw [List.take_add_one, hni]; rfl
      have wi1 : IntKind.i64.wrap ((i : Int) + 1) = ((i + 1 : Nat) : Int) := by rw [wraps62 _ (by omega) (by omega)]; omega
      have qr := fun (w' : World) (hl' : IsT ndC 7 w' w'.heap.size (some ⟨bl, off, none⟩) i (l.take i)) => right_any n (l.take i) i cap (some ⟨bl, off, none⟩) w' hl' (by omega) hnl
      have qp := fun (w' : World) (hT' : TreeAt w' b b (l.take i)) => tput_any n (l.take i) w' b b hT'
      have hbadS := fun hb => treeE_some hE hni hb
      have hbadN := fun hb => treeE_next hE hni hb
      unfold badF at hbadS hbadN
      obtain ⟨R, hR⟩ : ∃ R, rightF n (l.take i) = R := ⟨_, rfl⟩
      have hRz := fun (h : R = 0) => right_zero (hR.trans h)
      rw [hR] at hbadS hbadN qr
      rw [htl] at hRz hbadS hbadN qp
      clear hE hni hR
      obtain ⟨nm, kd, ab, wt, ⟨v6, hi', lo⟩⟩ := n
      have y0 : wr.cell? ⟨bl, off + i * 7, none⟩ = some (.string (str nm)) := hcell 0 _ rfl
      have y1 : wr.cell? ⟨bl, off + i * 7 + 1, none⟩ = some (.int .i64 kd) := hcell 1 _ rfl
      have y2 : wr.cell? ⟨bl, off + i * 7 + 2, none⟩ = some (.int .i64 ab) := hcell 2 _ rfl
      have y3 : wr.cell? ⟨bl, off + i * 7 + 3, none⟩ = some (.int .i64 wt) := hcell 3 _ rfl
      have y4 : wr.cell? ⟨bl, off + i * 7 + 4, none⟩ = some (.bool v6) := hcell 4 _ rfl
      have y5 : wr.cell? ⟨bl, off + i * 7 + 5, none⟩ = some (.int .u64 (hi' : Int)) := hcell 5 _ rfl
      have y6 : wr.cell? ⟨bl, off + i * 7 + 6, none⟩ = some (.int .u64 (lo : Int)) := hcell 6 _ rfl
      unfold ndA at qr qp
      dsimp only at qr qp hRz hbadS hbadN
      clear hcell
      have hzr := hBr.size
      replace qr := hide qr
      replace qp := hide qp
      replace hRz := hide hRz
      replace hbadS := hide hbadS
      replace hbadN := hide hbadN
      replace hT := hide hT
      replace hBr := hide hBr
      replace htk := hide htk
      replace htl := hide htl
      go_upto_region 4 with fail
      apply wp_region_lit
      iterate 3 (refine wpList_plain rfl fun K hK => ?_; go_simp; refine hK _ _ ?_; clear hK K)
      refine wpl_newm rfl rfl rfl 68 _ (alloc_nd _ rfl) 7 6 rfl rfl (.int .i64 (i : Int)) (fun _ => rfl) (.tmp 17) rfl _ (fun _ => rfl) (fun _ => rfl) rfl (by kernel_rfl) (nd_one (str nm) kd ab wt v6 (hi' : Int) (lo : Int)) ?_
      intro w4 hg4 hb4 hz4
      refine wpList_nil ?_
      go_simp
      have hT4 : TreeAt w4 b b (l.take i) := by
        obtain ⟨nv, kv, tv, hv, us, h⟩ := hT.out
        exact ⟨nv, kv, tv, hv, us, h.on hb4⟩
      have hB4 := hBr.out.trans (hb4.mono (by omega))
      clear y0 y1 y2 y3 y4 y5 y6 hb4 hT hBr
      replace hg4 := hide hg4
      replace hT4 := hide hT4
      replace hB4 := hide hB4
      go_upto_region 5 with fail
      have hs4 := lt_of_blk hg4.out
      refine wp_region_X (Below w4.heap.size) (by as_aux_lemma => kernel_rfl) ?_
      intro w5 hbd
      have hg5 := blk_below hbd hs4 hg4.out
      have ze := hbd.size
      have hT5 : TreeAt w5 b b (l.take i) := by
        obtain ⟨nv, kv, tv, hv, us, h⟩ := hT4.out
        exact ⟨nv, kv, tv, hv, us, h.on hbd⟩
      have hB5 := hB4.out.trans (hbd.mono (by omega))
      have lz := fun l : RelW (Below w4.heap.size) w5 => blk_cell (blk_below l.hk hs4 hg5)
      have hq : ∀ w' : World, Below w4.heap.size w5 w' → Calls Tryz.prog 53 #[.agg #[.string (str nm), .int .i64 kd, .int .i64 ab, .int .i64 wt, .bool v6, .int .u64 (hi' : Int), .int .u64 (lo : Int)], .slice (some ⟨bl, off, none⟩) i cap] w' fun e w6 => e = .returned (.int .i64 (R : Int)) ∧ Below w'.heap.size w' w6 := by
        intro w' h
        refine qr.out w' ?_
        have hB6 := hB5.trans (h.mono (by omega))
        have h2 := IsT.take (f := ndC) (size := 7) (fun _ => rfl) (hl.out.below hB6) (show i ≤ k by omega)
        exact ⟨h2.1, h2.2.more (by have := hB6.size; omega)⟩
      clear hg4 hT4 hB4 hbd
      replace hg5 := hide hg5
      replace hT5 := hide hT5
      replace hB5 := hide hB5
      replace hq := hide hq
      have hic : i ≤ cap := by omega
      refine wpX_seg (Below w4.heap.size) 0 4 (fuel := 2) (by as_aux_lemma => kernel_rfl) (fun d _ _ _ _ h => by cases d <;> exact h) (by as_aux_lemma => kernel_rfl) (by as_aux_lemma => kernel_rfl) ?_
      simp only [List.drop_zero, List.take_succ_cons, List.take_zero]
      iterate 4 (refine wpQX_step (fun K hK => ?_); go_simp; refine hK _ ?_; clear hK K)
      refine wpQF_nil ?_
      clear lz
      refine wpF_step 4 rfl (by as_aux_lemma => kernel_rfl) (fun K hK => ?_)
      go_simp
      go_at_call 53
      refine (hq.out w5 (Below.refl _ _)).mono ?_
      rintro e w6 ⟨rfl, hb6⟩
      refine hK _ _ (hb6.mono (by omega)) ?_
      clear hK K
      refine wpF_step 5 rfl (by as_aux_lemma => kernel_rfl) (fun K hK => ?_)
      go_simp
      refine hK _ _ (IsRel.refl _) ?_
      clear hK K
      refine wpF_done (by as_aux_lemma => kernel_rfl) ?_ 0
      have hg6 := blk_below hb6 (by omega) hg5.out
      have ze6 := hb6.size
      have hT6 : TreeAt w6 b b (l.take i) := by
        obtain ⟨nv, kv, tv, hv, us, h⟩ := hT5.out
        exact ⟨nv, kv, tv, hv, us, h.on hb6⟩
      have hB6 := hB5.out.trans (hb6.mono (by omega))
      clear hg5 hT5 hB5 hb6 hq
      replace hg6 := hide hg6
      replace hT6 := hide hT6
      replace hB6 := hide hB6
      by_cases hR : R = 0
      case neg =>
        have hb9 := hbadS.out (by rw [if_pos hR]; exact hR)
        rw [if_pos hR] at hb9
        have hne : ((R : Int) != 0) = true := by rw [bne_iff_ne]; omega
        have hR1 : 0 < R := by omega
        replace hb9 := hide hb9
        go_wp2_with fail
        go_ret3
        exact ⟨hB6.out, .inl ⟨i, R, hb9.out, hR1, rfl⟩⟩
      case pos =>
      have hrz := hRz.out hR
      subst hR
      have hS := hbadS.out
      have hN := hbadN.out
      clear hbadS hbadN
      rw [if_neg (by simp)] at hS hN
      obtain ⟨nv, kv, tv, hv, us, hC⟩ := hT6.out
      have hc0 := blk_cell hC.blk 0
      have hc2 := blk_cell hC.blk 2
      have hc3 := blk_cell hC.blk 3
      have hcn := blk_cell hg6.out 1
      obtain ⟨An, cn, hnv, -, -, -⟩ := own_isv hC.nodes
      obtain ⟨At, ct, htv, -, -, -⟩ := own_isv (hC.rows.own 0 tv _ rfl rfl)
      obtain ⟨Ah, ch, hhv, -, -, -⟩ := own_isv (hC.rows.own 1 hv _ rfl rfl)
      subst hnv htv hhv
      clear hC
      rw [htl.out] at hc0
      obtain ⟨NT, hNT⟩ : ∃ n, (topF (l.take i)).length = n := ⟨_, rfl⟩
      obtain ⟨NH, hNH⟩ : ∃ n, (hostsF (l.take i)).length = n := ⟨_, rfl⟩
      rw [hNT] at hc2 hS hN
      rw [hNH] at hc3 hS hN
      obtain ⟨b1, hb1⟩ : ∃ c, decide (1024 ≤ (i : Int)) = c := ⟨_, rfl⟩
      obtain ⟨b2, hb2⟩ : ∃ c, (kd == 1) = c := ⟨_, rfl⟩
      obtain ⟨b3, hb3⟩ : ∃ c, decide (4 ≤ (NT : Int)) = c := ⟨_, rfl⟩
      obtain ⟨b4, hb4⟩ : ∃ c, (kd == 4) = c := ⟨_, rfl⟩
      obtain ⟨b5, hb5⟩ : ∃ c, decide (512 ≤ (NH : Int)) = c := ⟨_, rfl⟩
      obtain ⟨B, hB⟩ : ∃ c, (b1 || (b2 && b3) || (b4 && b5)) = c := ⟨_, rfl⟩
      have hiff : (1024 ≤ i ∨ kd = 1 ∧ 4 ≤ NT ∨ kd = 4 ∧ 512 ≤ NH) ↔ B = true := by
        rw [← hB, ← hb1, ← hb2, ← hb3, ← hb4, ← hb5]
        simp [or_assoc]
        omega
      replace hS := hide hS
      replace hN := hide hN
      replace hiff := hide hiff
      go_upto_region 8 with fail
      go_cut [58] (fun bv wx => bv = .bool B ∧ w6 = wx)
      case first =>

        cases b1
        · cases b2
          · cases b4 <;> (simp only [Bool.or_true, Bool.or_false, Bool.and_true, Bool.and_false, Bool.false_or, Bool.true_and, Bool.false_and] at hB; subst hB; go_wp2_with fail; go_meet; exact ⟨rfl, rfl⟩)
          · cases b3
            · cases b4 <;> (simp only [Bool.or_true, Bool.or_false, Bool.and_false, Bool.true_or, Bool.false_or, Bool.true_and, Bool.false_and] at hB; subst hB; go_wp2_with fail; go_meet; exact ⟨rfl, rfl⟩)
            · (simp only [Bool.or_true, Bool.or_false, Bool.and_true, Bool.and_false, Bool.true_or, Bool.false_or, Bool.true_and] at hB; subst hB; go_wp2_with fail; go_meet; exact ⟨rfl, rfl⟩)
        · (simp only [Bool.or_true, Bool.or_false, Bool.and_true, Bool.and_false, Bool.true_or, Bool.false_or, Bool.false_and] at hB; subst hB; go_wp2_with fail; go_meet; exact ⟨rfl, rfl⟩)
      case rest =>
      obtain ⟨rfl, rfl⟩ := hcut
      clear hb1 hb2 hb3 hb4 hb5 hB hc0 hc2 hc3
      have hi2 := hiff.out
      clear hiff
      cases B
      case true =>
        have h9 := hS.out (by rw [if_pos (hi2.2 rfl)]; decide)
        rw [if_pos (hi2.2 rfl)] at h9
        clear hS hN
        replace h9 := hide h9
        clear hi2
        go_wp2_with fail
        go_ret3
        exact ⟨hB6.out, .inl ⟨i, 6, h9.out, by decide, rfl⟩⟩
      case false =>
      have hn2 : ¬(1024 ≤ i ∨ kd = 1 ∧ 4 ≤ NT ∨ kd = 4 ∧ 512 ≤ NH) := fun h => absurd (hi2.1 h) (by decide)
      have h9 := hN.out (if_neg hn2)
      have hi3 : i < 1024 := Nat.lt_of_not_le fun h => hn2 (.inl h)
      have qp2 := qp.out w6 hT6.out hi3 hrz.2.2 ⟨hrz.1, hrz.2.1⟩
      clear hS hN hi2 hn2
      clear hcn
      have d0 := blk_cell hg6.out 0
      have d1 := blk_cell hg6.out 1
      have d2 := blk_cell hg6.out 2
      have d3 := blk_cell hg6.out 3
      have d4 := blk_cell hg6.out 4
      have d5 := blk_cell hg6.out 5
      have d6 := blk_cell hg6.out 6
      replace h9 := hide h9
      replace qp2 := hide qp2
      go_wp2_with fail
      refine (qp2.out).mono ?_
      rintro e w7 ⟨rfl, hT7, hB7⟩
      clear d0 d1 d2 d3 d4 d5 d6
      replace hT7 := hide hT7
      replace hB7 := hide hB7
      go_wp2_with fail
      refine ⟨⟨i + 1, by omega, rfl, h9.out, by rw [← htk.out]; exact hT7.out, hB6.out.trans hB7.out⟩, ?_⟩
      show k - ((i : Int) + 1).toNat < k - ((i : Int)).toNat
      omega
    · obtain rfl : i = k := by omega
      have hF : treeF l = none := by unfold treeF; rw [hlen]; exact hE
      have hT9 : TreeAt wr b b l := by rw [show l.take i = l by rw [← hlen]; exact List.take_length] at hT; exact hT
      have hlt : ¬((i : Int) < (i : Int)) := by omega
      clear hE hT
      replace hF := hide hF
      replace hT9 := hide hT9
      replace hBr := hide hBr
      go_wp2_with fail
      go_ret3
      exact ⟨hBr.out, .inr ⟨hF.out, b, rfl, hT9.out⟩⟩
end Tree16
end Go.Proofs.YtcpokkkdmenmgaaGreatDoor
/- valid: a configuration that may be, in memory; and one that lies between two blocks' numbers, whatever changes besides. No condition. -/
namespace Go.Proofs.YtcpokkkdmenmgaaGreatDoor
open Go.RowKit Go.ChangeShapes Go.WideShapes Go.ChangeAt Go.Deep
namespace Val19
open Conf18 (Nd Vp Vw Cfg zA ndC vpC vwC cfC CfgR CfgV lt_of_blk)
open Addr05 (Adr)
open Tree16 (rightA treeF topF TreeAt TreeC Rows tnew_any TNewEnd levels_any)
/-- A configuration that may be, in memory. -/
structure VAt (w : World) (base x : Nat) (c : Cfg) : Prop where
  mk ::
  h : ∃ A1 A2 A3 k1 k2 k3 t, w.heap[x]? = some (.cells (cfC c (.slice A1 c.nodes.length k1) (.slice A2 c.vips.length k2) (.slice A3 c.views.length k3) ++ #[.pointer (some ⟨t, 0, none⟩)]) 49 (0, 0)) ∧ base ≤ x ∧
    CfgV w base c (cfC c (.slice A1 c.nodes.length k1) (.slice A2 c.vips.length k2) (.slice A3 c.views.length k3)) ∧ TreeAt w base t c.nodes
def VNewEnd (c : Cfg) (w w' : World) (e : Ending) : Prop :=
  Below w.heap.size w w' ∧ ((validF c ≠ 0 ∧ e = .returned (.tuple #[.pointer none, .int .i64 (validF c : Int)])) ∨ (validF c = 0 ∧ ∃ x, e = .returned (.tuple #[.pointer (some ⟨x, 0, none⟩), .int .i64 0]) ∧ VAt w' w.heap.size x c))
theorem TreeAt.weak {w : World} {base base' x : Nat} {ns : List Nd} (h : TreeAt w base x ns) (hb : base' ≤ base) : TreeAt w base' x ns := by
  obtain ⟨nv, kv, tv, hv, us, hC⟩ := h
  exact ⟨nv, kv, tv, hv, us, hC.blk, by have := hC.hx; omega, row_weaken hC.nodes hb, row_weaken hC.kids hb, ⟨hC.rows.len, fun i v x h1 h2 => row_weaken (hC.rows.own i v x h1 h2) hb, hC.rows.apart⟩, hC.small⟩
theorem istW {α : Type} {f : α → List Value} {size : Nat} {w : World} {B B' n : Nat} {A : Option Addr} {es : List α} (h : IsT f size w B A n es) (hb : B ≤ B') : IsT f size w B' A n es := ⟨h.1, h.2.more hb⟩
/-! ### What lies between two numbers of blocks, and stays. -/
def Kp (lo hi : Nat) (a b : World) : Prop := ∀ k, lo ≤ k → k < hi → b.heap[k]? = a.heap[k]?
theorem Kp.trans {lo hi : Nat} {a b c : World} (h : Kp lo hi a b) (k : Kp lo hi b c) : Kp lo hi a c := fun i h1 h2 => (k i h1 h2).trans (h i h1 h2)
theorem Kp.refl (lo hi : Nat) (a : World) : Kp lo hi a a := fun _ _ _ => rfl
theorem Kp.of_below {B lo hi : Nat} {a b : World} (h : Below B a b) (hh : hi ≤ B) : Kp lo hi a b := fun i _ h2 => h.block i (Nat.lt_of_lt_of_le h2 hh)
theorem Kp.of_keptS {S lo hi : Nat} {P : Nat → Prop} {a b : World} (h : KeptS S P a b) (hh : hi ≤ S) (hP : ∀ k, lo ≤ k → k < hi → ¬ P k) : Kp lo hi a b := fun i h1 h2 => h.block i (Nat.lt_of_lt_of_le h2 hh) (hP i h1 h2)
theorem row_kp {w w' : World} {base size n : Nat} {e : TypeId} {v : Value} {xs : List Value} (h : w.ownsRow base e size v n xs) (hk : Kp base w.heap.size w w') : w'.ownsRow base e size v n xs := by
  refine ⟨h.1, h.2.imp id ?_⟩
  rintro ⟨g, cap, cur, h1, h2, h3, h4⟩
  exact ⟨g, cap, cur, h1, h2, (hk g h2 (lt_of_blk h3)).trans h3, h4⟩
theorem rows_kp {w w' : World} {base : Nat} {vs : List Value} {xs : List (List Int)} (h : Tree16.Rows w base vs xs) (hk : Kp base w.heap.size w w') : Tree16.Rows w' base vs xs := ⟨h.len, fun i v x h1 h2 => row_kp (h.own i v x h1 h2) hk, h.apart⟩
theorem treeAt_kp {w w' : World} {base x : Nat} {ns : List Nd} (h : TreeAt w base x ns) (hk : Kp base w.heap.size w w') : TreeAt w' base x ns := by
  obtain ⟨nv, kv, tv, hv, us, hC⟩ := h
  exact ⟨nv, kv, tv, hv, us, (hk x hC.hx (lt_of_blk hC.blk)).trans hC.blk, hC.hx, row_kp hC.nodes hk, row_kp hC.kids hk, rows_kp hC.rows hk, hC.small⟩
theorem cfgV_kp {w w' : World} {base : Nat} {c : Cfg} {v : Array Value} (h : CfgV w base c v) (hk : Kp base w.heap.size w w') : CfgV w' base c v := ⟨row_kp h.nodes hk, row_kp h.vips hk, row_kp h.views hk, h.arr⟩
theorem VAt.kp {w w' : World} {base x : Nat} {c : Cfg} (h : VAt w base x c) (hk : Kp base w.heap.size w w') : VAt w' base x c := by
  obtain ⟨A1, A2, A3, k1, k2, k3, t, hb, hx, hv, ht⟩ := h.h
  exact ⟨⟨A1, A2, A3, k1, k2, k3, t, (hk x hx (lt_of_blk hb)).trans hb, hx, cfgV_kp hv hk, treeAt_kp ht hk⟩⟩
/-- A configuration that may be, between two numbers of blocks. -/
def VIn (w : World) (lo hi x : Nat) (c : Cfg) : Prop := ∃ w0, w0.heap.size = hi ∧ VAt w0 lo x c ∧ Kp lo hi w0 w
theorem VIn.mk {w : World} {lo x : Nat} {c : Cfg} (h : VAt w lo x c) : VIn w lo w.heap.size x c := ⟨w, rfl, h, Kp.refl _ _ _⟩
theorem VIn.at {w : World} {lo hi x : Nat} {c : Cfg} (h : VIn w lo hi x c) : VAt w lo x c := by
  obtain ⟨w0, h1, h2, h3⟩ := h
  subst h1
  exact h2.kp h3
theorem VIn.keep {w w' : World} {lo hi x : Nat} {c : Cfg} (h : VIn w lo hi x c) (hk : Kp lo hi w w') : VIn w' lo hi x c := by
  obtain ⟨w0, h1, h2, h3⟩ := h
  exact ⟨w0, h1, h2, h3.trans hk⟩
theorem VIn.x {w : World} {lo hi x : Nat} {c : Cfg} (h : VIn w lo hi x c) : lo ≤ x ∧ x < hi := by
  obtain ⟨w0, h1, h2, h3⟩ := h
  obtain ⟨A1, A2, A3, k1, k2, k3, t, hb, hx, hv, ht⟩ := h2.h
  exact ⟨hx, h1 ▸ lt_of_blk hb⟩
/-- A configuration as a value, between two numbers of blocks. -/
def CIn (w : World) (lo hi : Nat) (c : Cfg) (v : Array Value) : Prop := ∃ w0, w0.heap.size = hi ∧ CfgV w0 lo c v ∧ Kp lo hi w0 w
theorem CIn.mk {w : World} {lo : Nat} {c : Cfg} {v : Array Value} (h : CfgV w lo c v) : CIn w lo w.heap.size c v := ⟨w, rfl, h, Kp.refl _ _ _⟩
theorem CIn.at {w : World} {lo hi : Nat} {c : Cfg} {v : Array Value} (h : CIn w lo hi c v) : CfgV w lo c v := by
  obtain ⟨w0, h1, h2, h3⟩ := h
  subst h1
  exact cfgV_kp h2 h3
theorem CIn.keep {w w' : World} {lo hi : Nat} {c : Cfg} {v : Array Value} (h : CIn w lo hi c v) (hk : Kp lo hi w w') : CIn w' lo hi c v := by
  obtain ⟨w0, h1, h2, h3⟩ := h
  exact ⟨w0, h1, h2, h3.trans hk⟩
end Val19
end Go.Proofs.YtcpokkkdmenmgaaGreatDoor
/- store: a store in memory: its configuration lies between two numbers of blocks, the weights that were set in a map. No condition. -/
namespace Go.Proofs.YtcpokkkdmenmgaaGreatDoor
open Go.RowKit Go.ChangeShapes Go.WideShapes Go.ChangeAt Go.Deep
namespace Store20
open Conf18 (Nd Vp Vw Cfg zA MapI lt_of_blk kl kLaw)
open Addr05 (Adr MaxAt)
open Val19
abbrev big : Nat := 1099511627776
theorem mapI_on {w w' : World} {B n : Nat} {f : List UInt8 → Option Nat} (h : MapI w B n f) (hb : w'.heap[B]? = w.heap[B]?) : MapI w' B n f := by
  obtain ⟨D, ⟨es, k, h1, h2⟩, h3⟩ := h
  exact ⟨D, ⟨es, k, hb.trans h1, h2⟩, h3⟩
theorem mapI_mono {w : World} {B n m : Nat} {f : List UInt8 → Option Nat} (h : MapI w B n f) (hn : n ≤ m) : MapI w B m f := by
  obtain ⟨D, h1, h2⟩ := h
  exact ⟨D, h1.mono hn, h2⟩
theorem mapI_lt {w : World} {B n : Nat} {f : List UInt8 → Option Nat} (h : MapI w B n f) : B < w.heap.size := by
  obtain ⟨D, h1, h2⟩ := h
  exact h1.lt
/-- clear of a map. -/
theorem run_clear {w : World} {B n : Nat} {f : List UInt8 → Option Nat} (h : MapI w B n f) :
    ∃ w', (∀ ty, (Builtin.clear_ #[54] ty #[.map (some B)]).run Tryz.prog w = .ok (.tuple #[]) w') ∧ MapI w' B 0 (fun _ => none) ∧ w.grownBy w' (some B) := by
  have hlt := mapI_lt h
  obtain ⟨D, ⟨es, k, hb, -⟩, -⟩ := h
  refine ⟨{ w with heap := w.heap.setIfInBounds B (.map #[] k) }, fun ty => ?_, ⟨.map [], ⟨#[], k, ?_, ⟨by simp, MapKept.stamped_empty k, by simp⟩, Nat.le_refl _, rfl⟩, fun s => ⟨rfl, fun v h => by cases h⟩⟩, ?_⟩
  · have hm := Tryz.underlying54
    simp [Builtin.clear_, run_underlying hm, MapKept.run_getObj_map hb, MapKept.run_setObj_map _ hb, Result.andThen]
  · simp [hlt]
  · refine ⟨rfl, rfl, rfl, by simp, fun j hj hne => ?_⟩
    show (w.heap.setIfInBounds B (.map #[] k))[j]? = _
    rw [Array.getElem?_setIfInBounds_ne (fun e => hne (by rw [e]))]
theorem keyK2 (s : List UInt8) (h : s.length ≤ maxLen) : keyOf Tryz.prog 9 (.string (str s)) = some (kl s) := Go.WideMaps.keyOf_string_mk Tryz.underlying9 (by rw [show (str s).size = s.length from List.size_toArray]; exact h)
section
variable {o : Oper} {a : Act} {Q : Exit → Act → World → Prop} {w : World}
theorem wp_putI2 (m x u : Operand) (hop : o.op = Op.mapUpdate 54 m x u) {K : Act → World → Prop} (B n : Nat) (f : List UInt8 → Option Nat) (s : List UInt8) (v : Nat) (hs : s.length ≤ maxLen) (hn : n < 1099511627776) (hv : (Lit.int .i64 (v : Int)).wf = true)
    (hm : a.eval m = .map (some B)) (hx : a.eval x = .string (str s)) (hu : a.eval u = .int .i64 (v : Int)) (hB : MapI w B n f) (hK : ∀ w', MapI w' B (n + 1) (fun y => if y = s then some v else f y) → w.grownBy w' (some B) → ∀ v, K (a.put o.dst v) w') : o.wp Tryz.prog a w K Q := by
  obtain ⟨D, h1, h2⟩ := hB
  obtain ⟨w', hrun, h3, h4⟩ := h1.update kLaw Tryz.underlying54 (by unfold maxLen; omega) (keyK2 s hs) (plainElem_int Tryz.underlying3 (a := (v : Int)) hv)
  have hM : MapI w' B (n + 1) (fun y => if y = s then some v else f y) := by
    refine ⟨_, h3, fun y => ?_⟩
    by_cases e : y = s
    · subst e
      refine ⟨?_, fun v' hv' z => ?_⟩
      · rw [Maps.has_put_same h1.isMap (by trivial)]; simp
      · have hv2 : some v = some v' := by simpa using hv'
        cases hv2
        rw [Maps.atKey_put_same h1.isMap (by trivial)]
    · have hne : kl y ≠ kl s := by intro e2; exact e (by simpa [kl] using e2)
      refine ⟨?_, fun v' hv' z => ?_⟩
      · rw [Maps.has_put_other hne, (h2 y).1]; simp [e]
      · rw [Maps.atKey_put_other hne]; exact (h2 y).2 v' (by simpa [e] using hv') z
  unfold Oper.wp
  simp [execOp, hop, hm, hx, hu, hrun, Result.andThen]
  exact hK w' hM h4 _
end
theorem look2 {w : World} {B n : Nat} {f : List UInt8 → Option Nat} (h : MapI w B n f) (s : List UInt8) (hs : s.length ≤ maxLen) :
    (Instr.lookup 54 (.map (some B)) (.string (str s)) true).run Tryz.prog w = .ok (.tuple #[.int .i64 (((f s).getD 0 : Nat) : Int), .bool (f s).isSome]) w := by
  obtain ⟨D, h1, h2⟩ := h
  obtain ⟨v, ps, hrun, hv⟩ := h1.look_ok kLaw Tryz.underlying54 (Conf18.zeroI w) (plainElem_int Tryz.underlying3 (a := 0) (by decide)) (keyK2 s hs)
  obtain ⟨c, rfl, hc, _⟩ := plainElem_int_inv Tryz.underlying3 hv
  rw [hrun, (h2 s).1]
  have hc1 := congrArg Prod.fst hc
  dsimp only at hc1
  have : c = (((f s).getD 0 : Nat) : Int) := by
    rcases hf : f s with _ | u
    · have h3 := Maps.atKey_of_not_has (D := D) (k := kl s) (by rw [(h2 s).1, hf]; rfl) (.lit (.int .i64 0))
      rw [h3] at hc1
      simpa using hc1.symm
    · rw [(h2 s).2 u hf] at hc1
      simpa using hc1.symm
  rw [this]
def NowV (w : World) (lo hi : Nat) (v : Value) : Option Cfg → Prop
  | none => v = .pointer none
  | some c => ∃ x, v = .pointer (some ⟨x, 0, none⟩) ∧ VIn w lo hi x c
theorem NowV.keep {w w' : World} {lo hi : Nat} {v : Value} {c : Option Cfg} (h : NowV w lo hi v c) (hk : Kp lo hi w w') : NowV w' lo hi v c := by
  rcases c with _ | c
  · exact h
  · obtain ⟨x, h1, h2⟩ := h
    exact ⟨x, h1, h2.keep hk⟩
/-- A store in memory. -/
structure StC (w : World) (s mp lo hi n : Nat) (nv : Value) (S : St) : Prop where
  blk : w.heap[s]? = some (.cells #[nv, .int .i64 (S.gen : Int), .map (some mp), .bool true] 56 (0, 0))
  now : NowV w lo hi nv S.c
  map : MapI w mp n S.sets
  ok : S.ok big
  hs : s < lo ∨ hi ≤ s
  hm : mp < lo ∨ hi ≤ mp
  hh : hi ≤ w.heap.size
section
variable {w w' : World} {s mp lo hi n : Nat} {nv : Value} {S : St}
theorem StC.ne (h : StC w s mp lo hi n nv S) : s ≠ mp := by
  rintro rfl
  obtain ⟨es, k, h1⟩ := h.map.blk
  rw [h.blk] at h1
  cases h1
theorem StC.lt (h : StC w s mp lo hi n nv S) : s < w.heap.size ∧ mp < w.heap.size := ⟨lt_of_blk h.blk, mapI_lt h.map⟩
theorem StC.on (h : StC w s mp lo hi n nv S) (h1 : w'.heap[s]? = w.heap[s]?) (h2 : w'.heap[mp]? = w.heap[mp]?) (hk : Kp lo hi w w') (hz : w.heap.size ≤ w'.heap.size) : StC w' s mp lo hi n nv S :=
  ⟨h1.trans h.blk, h.now.keep hk, mapI_on h.map h2, h.ok, h.hs, h.hm, Nat.le_trans h.hh hz⟩
theorem StC.below (h : StC w s mp lo hi n nv S) (hb : Below w.heap.size w w') : StC w' s mp lo hi n nv S :=
  h.on (hb.block _ h.lt.1) (hb.block _ h.lt.2) (Kp.of_below hb h.hh) hb.size
theorem StC.keptS {P : Nat → Prop} (h : StC w s mp lo hi n nv S) (hb : KeptS w.heap.size P w w') (h1 : ¬ P s) (h2 : ¬ P mp) (h3 : ∀ k, lo ≤ k → k < hi → ¬ P k) : StC w' s mp lo hi n nv S :=
  h.on (hb.block _ h.lt.1 h1) (hb.block _ h.lt.2 h2) (Kp.of_keptS hb h.hh h3) hb.size
theorem maxAt_on (h : MaxAt w) (hb : w'.heap[0]? = w.heap[0]?) : MaxAt w' := by
  obtain ⟨m, hm⟩ := h
  exact ⟨m, (World.cell?_of_block hb).trans hm⟩
/-- The variable that is read lies apart from a store. -/
theorem StC.max (h : StC w s mp lo hi n nv S) (hp : ∃ p, nv = .pointer p) (hM : MaxAt w) : s ≠ 0 ∧ mp ≠ 0 := by
  obtain ⟨m, hm⟩ := hM
  obtain ⟨p, rfl⟩ := hp
  constructor
  · intro e
    have h1 := blk_cell h.blk 0
    rw [e, hm] at h1
    cases h1
  · intro e
    obtain ⟨es, k, h1⟩ := h.map.blk
    rw [e] at h1
    simp [World.cell?, h1] at hm
theorem NowV.ptr {c : Option Cfg} (h : NowV w lo hi nv c) : ∃ p, nv = .pointer p := by
  rcases c with _ | c
  · exact ⟨_, h⟩
  · obtain ⟨x, h1, _⟩ := h
    exact ⟨_, h1⟩
theorem StC.maxAt {P : Nat → Prop} (hM : MaxAt w) (hb : KeptS w.heap.size P w w') (h1 : ¬ P 0) : MaxAt w' := by
  obtain ⟨m, hm⟩ := hM
  exact maxAt_on ⟨m, hm⟩ (hb.block _ (World.block_lt_of_cell? w _ hm) h1)
end
/-- What a change of a store leaves: the store, whose configuration is the elder one or lies in new memory. -/
def StTo (w w' : World) (s mp lo hi n : Nat) (S' : St) : Prop :=
  ∃ lo' hi' n' nv', StC w' s mp lo' hi' n' nv' S' ∧ n' ≤ n + 1 ∧ ((lo' = lo ∧ hi' = hi) ∨ w.heap.size ≤ lo') ∧ KeptS w.heap.size (fun k => k = s ∨ k = mp) w w'
end Store20
end Go.Proofs.YtcpokkkdmenmgaaGreatDoor
