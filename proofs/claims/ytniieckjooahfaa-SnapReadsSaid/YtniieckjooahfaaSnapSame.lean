/- Law 44's same of ops that are the same; the example of chapter 44. Conditions: slices of ops that read as lists. -/
import Derived.Test.YtniieckjooahfaaSnapRead
import Derived.Test.YtniieckjooahfaaSnapBytes
namespace Go.Proofs.Ytniieckjooahfaa
open Go.RowKit Go.ChangeShapes Go.WideShapes Go.ChangeAt Go.Deep
namespace Snap
theorem keptS_grownBy {S g : Nat} {P : Nat → Prop} {w w' : World} (h : w.grownBy w' (some g)) (hS : S ≤ w.heap.size) (hg : S ≤ g) : KeptS S P w w' :=
  ⟨h.os, h.tape, h.output, h.size, fun k hk _ => h.block k (by omega) (by intro e; cases e; omega)⟩
set_option maxRecDepth 20000 in
set_option maxHeartbeats 8000000 in
theorem same_any (A1 : Option Addr) (n1 c1 : Nat) (A2 : Option Addr) (n2 c2 : Nat) (es1 es2 : List OpD) (w : World)
    (h1 : IsO w w.heap.size A1 n1 es1) (h2 : IsO w w.heap.size A2 n2 es2) (he : es1.map OpD.o = es2.map OpD.o) (hn : n1 ≤ 1099511627776) :
    Calls Try.prog 43 #[.slice A1 n1 c1, .slice A2 n2 c2] w fun e w' => e = .returned (.bool true) ∧ Below w.heap.size w w' := by
  have hnn : n2 = n1 := by
    have := congrArg List.length he
    rw [List.length_map, List.length_map, h1.1, h2.1] at this
    exact this.symm
  subst hnn
  replace h1 := hide h1
  replace h2 := hide h2
  replace he := hide he
  go_enter Try.func43, Try.ntmps43
  go_wp2_with fail
  go_loopw [5] (fun i wr => ∃ j : Nat, j ≤ n2 ∧ i = .int .i64 (j : Int) ∧ Below w.heap.size w wr) (fun i _ => n2 - (intOf i).toNat)
  case atStart => exact ⟨0, Nat.zero_le _, rfl, Below.refl _ _⟩
  case round =>
    obtain ⟨j, hj, rfl, hbr⟩ := hrel
    have zr := hbr.size
    have hx1 := h1.out.on hbr
    have hx2 := h2.out.on hbr
    by_cases hlt : j < n2
    · have t1 : (j : Int) < (n2 : Int) := by omega
      have t2 : (0 : Int) ≤ (j : Int) := by omega
      obtain ⟨ba, oa, ea, rfl, hbla, hgea, hda, p0, p1, p2, p3, p4, p5⟩ := hx1.at hlt
      obtain ⟨bb, ob, eb, rfl, hblb, hgeb, hdb, q0, q1, q2, q3, q4, q5⟩ := hx2.at hlt
      have heo : ea.o = eb.o := by
        have e1 : (es1.map OpD.o)[j]? = some ea.o := by rw [List.getElem?_map, hgea]; rfl
        have e2 : (es2.map OpD.o)[j]? = some eb.o := by rw [List.getElem?_map, hgeb]; rfl
        rw [he.out, e2] at e1
        exact (Option.some.inj e1).symm
      obtain ⟨oa', Aa, ca⟩ := ea
      obtain ⟨⟨k, ys, s, h, m, up⟩, Ab, cb⟩ := eb
      simp only at heo
      subst heo
      simp only at p0 p1 p2 p3 p4 p5 q0 q1 q2 q3 q4 q5
      obtain ⟨sb, hsb⟩ : ∃ sb, str s = sb := ⟨_, rfl⟩
      rw [hsb] at p2 q2
      have hia : IsB wr wr.heap.size Aa ys.length ys := hda.1
      have hib : IsB wr wr.heap.size Ab ys.length ys := hdb.1
      clear hgea hgeb hx1 hx2 hda hdb
      replace hbr := hide hbr
      replace hia := hide hia
      replace hib := hide hib
      replace hsb := hide hsb
      go_upto_region 6 with fail
      go_cut [6, 7] (fun x y wx => ∃ g1 g2 wz, x = .pointer (some ⟨g1, 0, none⟩) ∧ y = .pointer (some ⟨g2, 0, none⟩) ∧ wz.heap[g1]? = some (.cells #[.int .i64 k, .slice Aa ys.length ca, .string sb, .int .i64 h, .int .i64 m, .bool up] 77 (0, 0)) ∧ wz.heap[g2]? = some (.cells #[.int .i64 k, .slice Ab ys.length cb, .string sb, .int .i64 h, .int .i64 m, .bool up] 77 (0, 0)) ∧ Below wr.heap.size wr wz ∧ g1 < wz.heap.size ∧ g2 < wz.heap.size ∧ wz = wx)
      case first =>
        refine wp_region_S wr.heap.size (fun _ => False) (by as_aux_lemma => kernel_rfl) ?_
        intro wd hbd
        have zd := hbd.size
        have y0 := fun l : KeptSW wr.heap.size (fun _ => False) wd => (l.cellOf p0 hbd)
        have y1 := fun l : KeptSW wr.heap.size (fun _ => False) wd => (l.cellOf p1 hbd)
        have y2 := fun l : KeptSW wr.heap.size (fun _ => False) wd => (l.cellOf p2 hbd)
        have y3 := fun l : KeptSW wr.heap.size (fun _ => False) wd => (l.cellOf p3 hbd)
        have y4 := fun l : KeptSW wr.heap.size (fun _ => False) wd => (l.cellOf p4 hbd)
        have y5 := fun l : KeptSW wr.heap.size (fun _ => False) wd => (l.cellOf p5 hbd)
        have x0 := fun l : KeptSW wr.heap.size (fun _ => False) wd => (l.cellOf q0 hbd)
        have x1 := fun l : KeptSW wr.heap.size (fun _ => False) wd => (l.cellOf q1 hbd)
        have x2 := fun l : KeptSW wr.heap.size (fun _ => False) wd => (l.cellOf q2 hbd)
        have x3 := fun l : KeptSW wr.heap.size (fun _ => False) wd => (l.cellOf q3 hbd)
        have x4 := fun l : KeptSW wr.heap.size (fun _ => False) wd => (l.cellOf q4 hbd)
        have x5 := fun l : KeptSW wr.heap.size (fun _ => False) wd => (l.cellOf q5 hbd)
        clear p0 p1 p2 p3 p4 p5 q0 q1 q2 q3 q4 q5
        replace hbd := hide hbd
        refine wpS_seg wr.heap.size (fun _ => False) 0 8 (fuel := 4) (by as_aux_lemma => kernel_rfl) (fun d _ _ _ _ h => by cases d <;> exact h) (by as_aux_lemma => kernel_rfl) (by as_aux_lemma => kernel_rfl) ?_
        simp only [List.drop_zero, List.take_succ_cons, List.take_zero]
        iterate 8 (refine wpQS_step (fun K hK => ?_); go_simp; refine hK _ ?_; clear hK K)
        refine wpQF_nil ?_
        clear y0 y1 y2 y3 y4 y5 x0 x1 x2 x3 x4 x5
        refine wpF_two 8 9 rfl rfl (by as_aux_lemma => kernel_rfl) (fun K hK => ?_) (fun K hK => ?_)
        · go_simp
          have ha1 := blk_new wd 77 #[.int .i64 0, .slice none 0 0, .string ⟨#[]⟩, .int .i64 0, .int .i64 0, .bool false]
          have hwa : Below wr.heap.size wd (wd.alloc (.cells #[.int .i64 0, .slice none 0 0, .string ⟨#[]⟩, .int .i64 0, .int .i64 0, .bool false] 77)) := (Below.refl _ _).alloc zd _
          have hza : wd.heap.size < (wd.alloc (.cells #[.int .i64 0, .slice none 0 0, .string ⟨#[]⟩, .int .i64 0, .int .i64 0, .bool false] 77)).heap.size := by simp
          refine hK _ _ (keptS_of_below hwa (Nat.le_refl _)) ?_
          clear hK K
          generalize wd.alloc (.cells #[.int .i64 0, .slice none 0 0, .string ⟨#[]⟩, .int .i64 0, .int .i64 0, .bool false] 77) = wa at ha1 hwa hza ⊢
          refine wpF_step 9 rfl (by as_aux_lemma => kernel_rfl) (fun K hK => ?_)
          go_simp
          have hb2 := blk_new wa 77 #[.int .i64 0, .slice none 0 0, .string ⟨#[]⟩, .int .i64 0, .int .i64 0, .bool false]
          have ha2 := blk_old (.cells #[.int .i64 0, .slice none 0 0, .string ⟨#[]⟩, .int .i64 0, .int .i64 0, .bool false] 77) hza ha1
          have hwb : Below wr.heap.size wa (wa.alloc (.cells #[.int .i64 0, .slice none 0 0, .string ⟨#[]⟩, .int .i64 0, .int .i64 0, .bool false] 77)) := (Below.refl _ _).alloc (by omega) _
          have hzb : wa.heap.size < (wa.alloc (.cells #[.int .i64 0, .slice none 0 0, .string ⟨#[]⟩, .int .i64 0, .int .i64 0, .bool false] 77)).heap.size := by simp
          refine hK _ _ (keptS_of_below hwb (Nat.le_refl _)) ?_
          clear hK K
          generalize wa.alloc (.cells #[.int .i64 0, .slice none 0 0, .string ⟨#[]⟩, .int .i64 0, .int .i64 0, .bool false] 77) = wb at ha2 hb2 hwb hzb ⊢
          have hcg := blk_cell ha2
          have hfr := blk_free ha2
          obtain ⟨wc, ec, ha3, gc⟩ := set6all ha2 (.int .i64 k) (.slice Aa ys.length ca) (.string sb) (.int .i64 h) (.int .i64 m) (.bool up)
          have hb3 := grown_other gc (by omega) (by omega) hb2
          have zc := gc.size
          replace hb2 := hide hb2
          replace ha2 := hide ha2
          replace ha3 := hide ha3
          replace hb3 := hide hb3
          replace gc := hide gc
          refine wpF_step 10 rfl (by as_aux_lemma => kernel_rfl) (fun K hK => ?_)
          go_simp
          refine hK _ _ (keptS_grownBy gc.out (by omega) (by omega)) ?_
          clear hK K hcg hfr ec
          have hcg := blk_cell hb3.out
          have hfr := blk_free hb3.out
          obtain ⟨we, ee, hb4, ge⟩ := set6all hb3.out (.int .i64 k) (.slice Ab ys.length cb) (.string sb) (.int .i64 h) (.int .i64 m) (.bool up)
          have ha4 := grown_other ge (by omega) (by omega) ha3.out
          have zw := ge.size
          replace hb4 := hide hb4
          replace ha4 := hide ha4
          replace ge := hide ge
          refine wpF_step 11 rfl (by as_aux_lemma => kernel_rfl) (fun K hK => ?_)
          go_simp
          refine hK _ _ (keptS_grownBy ge.out (by omega) (by omega)) ?_
          clear hK K hcg hfr ee
          have hBe : Below wr.heap.size wr we := (hbd.out.trans hwa).trans (hwb.trans ((below_grown gc.out (by omega) (by omega)).trans (below_grown ge.out (by omega) (by omega))))
          refine wpF_done (by as_aux_lemma => kernel_rfl) ?_ 0
          clear hwa hwb gc ge hb3 ha3
          replace hBe := hide hBe
          go_wp2_with fail
          go_meet
          exact ⟨_, _, we, rfl, rfl, ha4.out, hb4.out, hBe.out, by omega, by omega, rfl⟩
        · go_simp
          have hb1 := blk_new wd 77 #[.int .i64 0, .slice none 0 0, .string ⟨#[]⟩, .int .i64 0, .int .i64 0, .bool false]
          have hwa : Below wr.heap.size wd (wd.alloc (.cells #[.int .i64 0, .slice none 0 0, .string ⟨#[]⟩, .int .i64 0, .int .i64 0, .bool false] 77)) := (Below.refl _ _).alloc zd _
          have hza : wd.heap.size < (wd.alloc (.cells #[.int .i64 0, .slice none 0 0, .string ⟨#[]⟩, .int .i64 0, .int .i64 0, .bool false] 77)).heap.size := by simp
          refine hK _ _ (keptS_of_below hwa (Nat.le_refl _)) ?_
          clear hK K
          generalize wd.alloc (.cells #[.int .i64 0, .slice none 0 0, .string ⟨#[]⟩, .int .i64 0, .int .i64 0, .bool false] 77) = wa at hb1 hwa hza ⊢
          refine wpF_step 8 rfl (by as_aux_lemma => kernel_rfl) (fun K hK => ?_)
          go_simp
          have ha2 := blk_new wa 77 #[.int .i64 0, .slice none 0 0, .string ⟨#[]⟩, .int .i64 0, .int .i64 0, .bool false]
          have hb2 := blk_old (.cells #[.int .i64 0, .slice none 0 0, .string ⟨#[]⟩, .int .i64 0, .int .i64 0, .bool false] 77) hza hb1
          have hwb : Below wr.heap.size wa (wa.alloc (.cells #[.int .i64 0, .slice none 0 0, .string ⟨#[]⟩, .int .i64 0, .int .i64 0, .bool false] 77)) := (Below.refl _ _).alloc (by omega) _
          have hzb : wa.heap.size < (wa.alloc (.cells #[.int .i64 0, .slice none 0 0, .string ⟨#[]⟩, .int .i64 0, .int .i64 0, .bool false] 77)).heap.size := by simp
          refine hK _ _ (keptS_of_below hwb (Nat.le_refl _)) ?_
          clear hK K
          generalize wa.alloc (.cells #[.int .i64 0, .slice none 0 0, .string ⟨#[]⟩, .int .i64 0, .int .i64 0, .bool false] 77) = wb at ha2 hb2 hwb hzb ⊢
          have hcg := blk_cell ha2
          have hfr := blk_free ha2
          obtain ⟨wc, ec, ha3, gc⟩ := set6all ha2 (.int .i64 k) (.slice Aa ys.length ca) (.string sb) (.int .i64 h) (.int .i64 m) (.bool up)
          have hb3 := grown_other gc (by omega) (by omega) hb2
          have zc := gc.size
          replace hb2 := hide hb2
          replace ha2 := hide ha2
          replace ha3 := hide ha3
          replace hb3 := hide hb3
          replace gc := hide gc
          refine wpF_step 10 rfl (by as_aux_lemma => kernel_rfl) (fun K hK => ?_)
          go_simp
          refine hK _ _ (keptS_grownBy gc.out (by omega) (by omega)) ?_
          clear hK K hcg hfr ec
          have hcg := blk_cell hb3.out
          have hfr := blk_free hb3.out
          obtain ⟨we, ee, hb4, ge⟩ := set6all hb3.out (.int .i64 k) (.slice Ab ys.length cb) (.string sb) (.int .i64 h) (.int .i64 m) (.bool up)
          have ha4 := grown_other ge (by omega) (by omega) ha3.out
          have zw := ge.size
          replace hb4 := hide hb4
          replace ha4 := hide ha4
          replace ge := hide ge
          refine wpF_step 11 rfl (by as_aux_lemma => kernel_rfl) (fun K hK => ?_)
          go_simp
          refine hK _ _ (keptS_grownBy ge.out (by omega) (by omega)) ?_
          clear hK K hcg hfr ee
          have hBe : Below wr.heap.size wr we := (hbd.out.trans hwa).trans (hwb.trans ((below_grown gc.out (by omega) (by omega)).trans (below_grown ge.out (by omega) (by omega))))
          refine wpF_done (by as_aux_lemma => kernel_rfl) ?_ 0
          clear hwa hwb gc ge hb3 ha3
          replace hBe := hide hBe
          go_wp2_with fail
          go_meet
          exact ⟨_, _, we, rfl, rfl, ha4.out, hb4.out, hBe.out, by omega, by omega, rfl⟩
      case rest =>
      obtain ⟨g1, g2, wz, rfl, rfl, hg1, hg2, hBz, zg1, zg2, rfl⟩ := hcut
      clear p0 p1 p2 p3 p4 p5 q0 q1 q2 q3 q4 q5
      have hBB := hbr.out.trans (hBz.mono zr)
      have u1 := blk_cell hg1
      have u2 := blk_cell hg2
      have hsa := (hia.out.below hBz).str ca
      have hsb' := (hib.out.below hBz).str cb
      replace hBz := hide hBz
      replace hBB := hide hBB
      replace hg1 := hide hg1
      replace hg2 := hide hg2
      go_wp2_with fail
      exact ⟨⟨j + 1, by omega, by go_num, hBB.out⟩, by simp [intOf]; omega⟩
    · have t1 : ¬ (j : Int) < (n2 : Int) := by omega
      clear hx1 hx2
      replace hbr := hide hbr
      go_wp2_with fail
      go_ret
      exact ⟨rfl, hbr.out⟩
end Snap
end Go.Proofs.Ytniieckjooahfaa
