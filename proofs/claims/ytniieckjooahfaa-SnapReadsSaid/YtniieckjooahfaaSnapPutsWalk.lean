/- SnapPuts, walked. Condition: a slice of ops that reads as a list. -/
import Derived.Test.YtniieckjooahfaaSnapSame
import Derived.Test.YtniieckjooahfaaSnapLawBytes
namespace Go.Proofs.Ytniieckjooahfaa
open Go.RowKit Go.ChangeShapes Go.WideShapes Go.ChangeAt Go.Deep
namespace Snap
set_option maxRecDepth 20000 in
set_option maxHeartbeats 4000000 in
theorem awake_any (w : World) : Calls Try.prog 40 #[] w fun e w' => e = .returned (.bool true) ∧ Below w.heap.size w w' := by
  have hB := bytes_any none 0 0 [] w (IsO.nil _ _ _) (Nat.le_refl _) (by unfold maxLen; omega) (by omega)
  have hq : ((str (encL (ops []))).toList == [68, 83, 84, 49, 0, 0, 0, 0]) = true := by
    rw [show (str (encL (ops []))).toList = encL (ops []) from ByteArray.toList_mk _]
    rfl
  replace hB := hide hB
  go_enter Try.func40, Try.ntmps40
  go_wp2_with fail
  refine hB.out.mono ?_
  rintro e w1 ⟨v, he, hown, hb⟩
  rw [if_pos (by rfl)] at he hown
  subst he
  obtain ⟨A, c, rfl, _, _, hi⟩ := hown.form
  have hst := hi.str c
  clear hown
  generalize encL (ops []) = bs at hq hst hi ⊢
  replace hi := hide hi
  replace hb := hide hb
  go_wp2_with fail
  go_ret
  exact ⟨rfl, hb.out⟩
theorem okAll_next {es : List OpD} {j : Nat} {e : OpD} (h : es[j]? = some e) : okAll (es.take (j + 1)) = (okAll (es.take j) && decide (okOp e.o)) := by
  obtain ⟨hl, rfl⟩ := List.getElem?_eq_some_iff.1 h
  unfold okAll
  rw [List.take_succ_eq_append_getElem hl, List.all_append]
  simp
set_option maxRecDepth 20000 in
set_option maxHeartbeats 8000000 in
theorem puts_walk (A : Option Addr) (n c : Nat) (es0 : List OpD) (w : World) (hx : IsO w w.heap.size A n es0) (hnc : n ≤ c) (hcm : c ≤ maxLen) :
    Calls Try.prog 9 #[.slice A n c] w fun e w' => e = .returned (.bool true) ∧ Below w.heap.size w w' := by
  have hF := few_any A n c es0 w hx hnc hcm
  obtain ⟨es, hes⟩ : ∃ es, fewD es0 = es := ⟨_, rfl⟩
  have hel : es.length ≤ 40 := by rw [← hes]; simp only [fewD, List.length_map, List.length_take]; omega
  rw [hes] at hF
  replace hx := hide hx
  replace hF := hide hF
  replace hes := hide hes
  go_enter Try.func9, Try.ntmps9
  go_wp2_with fail
  refine hF.out.mono ?_
  rintro e w1 ⟨A1, cA, rfl, hc1, hm1, hx1, hb1⟩
  obtain ⟨n1, hn1⟩ : ∃ n1, es.length = n1 := ⟨_, rfl⟩
  rw [hn1] at hc1 hx1 hel ⊢
  unfold maxLen at hm1
  clear hF
  replace hx1 := hide hx1
  replace hb1 := hide hb1
  replace hn1 := hide hn1
  go_wp2_with fail
  go_loopw [3, 4] (fun ov i wr => ∃ j : Nat, j ≤ n1 ∧ ov = .bool (okAll (es.take j)) ∧ i = .int .i64 (j : Int) ∧ Below w1.heap.size w1 wr) (fun _ i _ => n1 - (intOf i).toNat)
  case atStart => exact ⟨0, Nat.zero_le _, by simp [okAll], rfl, Below.refl _ _⟩
  case round =>
    obtain ⟨j, hj, rfl, rfl, hbr⟩ := hrel
    have hxr := hx1.out.on hbr
    have zr := hbr.size
    by_cases hlt : j < n1
    · obtain ⟨b, off, e, rfl, hbl, hge, hde, c0, c1, c2, c3, c4, c5⟩ := hxr.at hlt
      have t1 : (j : Int) < (n1 : Int) := by omega
      have t2 : (0 : Int) ≤ (j : Int) := by omega
      have hnx := okAll_next hge
      obtain ⟨⟨k, ys, s, h, m, up⟩, Ae, ce⟩ := e
      have hL := fun W => lawRight_any ⟨⟨k, ys, s, h, m, up⟩, Ae, ce⟩ W (Nat.le_trans hde.2.1 hde.2.2.1) hde.2.2.2
      have hR := fun W => right_any ⟨⟨k, ys, s, h, m, up⟩, Ae, ce⟩ W (Nat.le_trans hde.2.1 hde.2.2.1) hde.2.2.2
      simp only at c0 c1 c2 c3 c4 c5 hnx
      obtain ⟨sb, hsb⟩ : ∃ sb, str s = sb := ⟨_, rfl⟩
      obtain ⟨ok, hok⟩ : ∃ ok, okAll (es.take j) = ok := ⟨_, rfl⟩
      obtain ⟨r, hr⟩ : ∃ r, decide (okOp ⟨k, ys, s, h, m, up⟩) = r := ⟨_, rfl⟩
      rw [hok, hr] at hnx
      rw [hr] at hL hR
      unfold OpD.v at hL hR
      simp only at hL hR
      rw [hsb] at c2 hL hR
      rw [hok]
      clear hge hxr hde
      replace hbr := hide hbr
      replace hnx := hide hnx
      replace hsb := hide hsb
      replace hok := hide hok
      replace hr := hide hr
      replace hL := hide hL
      replace hR := hide hR
      go_upto_region 6 with fail
      go_cut [3] (fun ov wx => ∃ w4, ov = .bool (ok && r) ∧ Below wr.heap.size wr w4 ∧ w4 = wx)
      case first =>
        rcases ok with _ | _
        · go_wp2_with fail
          go_meet
          exact ⟨wr, rfl, Below.refl _ _, rfl⟩
        · go_wp2_with fail
          refine (hL.out _).mono ?_
          rintro e w4 ⟨rfl, hb4⟩
          replace hb4 := hide hb4
          go_wp2_with fail
          go_meet
          exact ⟨w4, by simp, hb4.out, rfl⟩
      case rest =>
      obtain ⟨w4, rfl, hb4, rfl⟩ := hcut
      have zr4 := hb4.size
      have y0 := fun l : Later w4 => l.cell ((hb4.cell (World.block_lt_of_cell? _ _ c0)).trans c0)
      have y1 := fun l : Later w4 => l.cell ((hb4.cell (World.block_lt_of_cell? _ _ c1)).trans c1)
      have y2 := fun l : Later w4 => l.cell ((hb4.cell (World.block_lt_of_cell? _ _ c2)).trans c2)
      have y3 := fun l : Later w4 => l.cell ((hb4.cell (World.block_lt_of_cell? _ _ c3)).trans c3)
      have y4 := fun l : Later w4 => l.cell ((hb4.cell (World.block_lt_of_cell? _ _ c4)).trans c4)
      have y5 := fun l : Later w4 => l.cell ((hb4.cell (World.block_lt_of_cell? _ _ c5)).trans c5)
      clear c0 c1 c2 c3 c4 c5
      have hB4 := hbr.out.trans (hb4.mono zr)
      replace hb4 := hide hb4
      replace hB4 := hide hB4
      go_upto_region 7 with fail
      refine wp_region_L (by as_aux_lemma => kernel_rfl) ?_
      refine wpE_seg 0 11 (fuel := 0) (by as_aux_lemma => kernel_rfl) (fun d _ _ _ _ h => by cases d <;> exact h) (by as_aux_lemma => kernel_rfl) (by as_aux_lemma => kernel_rfl) ?_
      simp only [List.drop_zero, List.take_succ_cons, List.take_zero]
      iterate 4 (refine wpQE_step (fun K hK => ?_); go_simp; refine hK _ ?_; clear hK K)
      (refine wpQE_step (fun K hK => ?_); go_simp; apply Exists.intro; refine ⟨fun l => ?_, hK _ ?_⟩; (go_at_call 38; refine (hR.out _).mono ?_; rintro e w' ⟨rfl, hb⟩; exact ⟨rfl, hb⟩); clear hK K)
      iterate 4 (refine wpQE_step (fun K hK => ?_); go_simp; refine hK _ ?_; clear hK K)
      (refine wpQE_step (fun K hK => ?_); go_simp; apply Exists.intro; refine ⟨fun l => ?_, hK _ ?_⟩; (go_at_call 37; refine (hL.out _).mono ?_; rintro e w' ⟨rfl, hb⟩; exact ⟨rfl, hb⟩); clear hK K)
      iterate 1 (refine wpQE_step (fun K hK => ?_); go_simp; refine hK _ ?_; clear hK K)
      refine wpQE_nil ?_
      refine wpE_done (by as_aux_lemma => kernel_rfl) (fun w5 hb5 => ?_) 0
      have hB5 := hB4.out.trans (hb5.mono (by omega))
      clear y0 y1 y2 y3 y4 y5 hb5
      replace hB5 := hide hB5
      go_wp2_with fail
      exact ⟨⟨j + 1, by omega, by rw [hnx.out], by go_num, hB5.out⟩, by simp [intOf]; omega⟩
    · have t1 : ¬ (j : Int) < (n1 : Int) := by omega
      have htj : es.take j = es := List.take_of_length_le (by rw [hn1.out]; omega)
      rw [htj]
      have hBy := bytes_any A1 n1 cA es wr (hx1.out.on hbr) hc1 (by unfold maxLen; omega) (by omega)
      have hBr := hb1.out.trans (hbr.mono hb1.out.size)
      clear hxr htj
      obtain ⟨ok, hok⟩ : ∃ ok, okAll es = ok := ⟨_, rfl⟩
      have hW1 := hx1.out.on hbr
      rw [hok]
      replace hbr := hide hbr
      replace hBy := hide hBy
      replace hok := hide hok
      replace hBr := hide hBr
      replace hW1 := hide hW1
      rcases ok with _ | _
      · go_wp2_with fail
        refine hBy.out.mono ?_
        rintro e w2 ⟨v, he, hown, hb2⟩
        rw [hok.out, if_neg (by simp)] at he hown
        subst he
        obtain ⟨A2, c2, rfl, _, _, hi⟩ := hown.form
        have hB2 := hBr.out.trans (hb2.mono hBr.out.size)
        clear hown hb2
        replace hi := hide hi
        replace hB2 := hide hB2
        go_wp2_with fail
        refine (awake_any _).mono ?_
        rintro e w3 ⟨rfl, hb3⟩
        have hB3 := hB2.out.trans (hb3.mono hB2.out.size)
        clear hb3
        replace hB3 := hide hB3
        go_wp2_with fail
        go_ret
        exact ⟨rfl, hB3.out⟩
      · have hall : ∀ e ∈ es, okOp e.o := fun e he => by
          have h1 := hok.out
          unfold okAll at h1
          simpa using List.all_eq_true.1 h1 e he
        have hops : ∀ o ∈ ops es, okOp o := fun o ho => by
          obtain ⟨e, he, rfl⟩ := List.mem_map.1 ho
          exact hall e he
        obtain ⟨hre, hrl⟩ := read_enc (ops es) hops (by simp only [ops, List.length_map]; rw [hn1.out]; omega)
        replace hall := hide hall
        replace hops := hide hops
        replace hre := hide hre
        replace hrl := hide hrl
        go_wp2_with fail
        refine hBy.out.mono ?_
        rintro e w2 ⟨v, he, hown, hb2⟩
        rw [hok.out, if_pos rfl] at he hown
        subst he
        obtain ⟨A2, c2, rfl, hc2, hm2, hi2⟩ := hown.form
        have hR2 := read_any A2 _ c2 _ w2 hi2 hc2 hm2
        have hB2 := hBr.out.trans (hb2.mono hBr.out.size)
        have hx2 := hW1.out.on hb2
        obtain ⟨bs, hbs⟩ : ∃ bs, encL (ops es) = bs := ⟨_, rfl⟩
        rw [hbs] at hR2 hi2 hc2
        rw [hbs]
        clear hown hb2
        replace hi2 := hide hi2
        replace hB2 := hide hB2
        replace hR2 := hide hR2
        replace hx2 := hide hx2
        replace hbs := hide hbs
        go_wp2_with fail
        refine hR2.out.mono ?_
        rintro e w3 ⟨A3, c3, es3, rfl, hes3, hi3, hc3, hm3, hb3⟩
        rw [← hbs.out, hre.out]
        rw [← hbs.out, hrl.out] at hes3
        rw [hbs.out]
        have hB3 := hB2.out.trans (hb3.mono hB2.out.size)
        have hx3 := hx2.out.on hb3
        have hi23 := hi2.out.on hb3
        have hst := fun l : Later w3 => (hi23.later l).str c2
        have hlen3 : es3.length = n1 := by
          have := congrArg List.length hes3
          rw [List.length_map, ops, List.length_map, hn1.out] at this
          exact this
        clear hb3
        replace hB3 := hide hB3
        replace hx3 := hide hx3
        replace hi23 := hide hi23
        replace hi3 := hide hi3
        replace hes3 := hide hes3
        go_upto_region 13 with fail
        have hLB := fun l : Later w3 => lawBytes_any A1 n1 cA es l.w (hx3.out.later l) hc1 (by unfold maxLen; omega) (by omega) hall.out
        replace hLB := hide hLB
        refine wp_region_L (by as_aux_lemma => kernel_rfl) ?_
        refine wpE_seg 0 6 (fuel := 17) (by as_aux_lemma => kernel_rfl) (fun d _ _ _ _ h => by cases d <;> exact h) (by as_aux_lemma => kernel_rfl) (by as_aux_lemma => kernel_rfl) ?_
        simp only [List.drop_zero, List.take_succ_cons, List.take_zero]
        iterate 6 (refine wpQE_step (fun K hK => ?_); go_simp; refine hK _ ?_; clear hK K)
        refine wpQE_nil ?_
        clear hst
        refine wpE_step 6 (fuel := 16) rfl (by as_aux_lemma => kernel_rfl) (fun l K hK => ?_)
        go_simp
        go_at_call 42
        refine (hLB.out l).mono ?_
        rintro e w4 ⟨v4, rfl, hown4, hb4⟩
        obtain ⟨A4, c4, rfl, hc4, hm4, hi4⟩ := hown4.form
        refine hK _ _ hb4 ?_
        clear hK K hown4
        rw [hbs.out] at hi4 hc4
        rw [hbs.out]
        have hB4 := hB3.out.trans ((l.hb.trans (hb4.mono l.hb.size)).mono hB3.out.size)
        have hi44 := fun l2 : Later w4 => hi4.later l2
        have hst4 := fun l2 : Later w4 => (hi44 l2).str c4
        have hx4 := ((hx3.out.later l).on hb4)
        have hi34 := ((hi3.out.later l).on hb4)
        rw [hlen3] at hi34
        have hsm := fun l2 : Later w4 => same_any A3 n1 c3 A1 n1 cA es3 es l2.w (hi34.later l2) (hx4.later l2) hes3.out (by omega)
        clear hi44 hi4 hb4
        replace hB4 := hide hB4
        replace hsm := hide hsm
        replace hx4 := hide hx4
        replace hi34 := hide hi34
        refine wpE_seg 7 16 (fuel := 0) (by as_aux_lemma => kernel_rfl) (fun d _ _ _ _ h => by cases d <;> exact h) (by as_aux_lemma => kernel_rfl) (by as_aux_lemma => kernel_rfl) ?_
        simp only [List.drop_succ_cons, List.drop_zero, List.take_succ_cons, List.take_zero]
        iterate 10 (refine wpQE_step (fun K hK => ?_); go_simp; refine hK _ ?_; clear hK K)
        (refine wpQE_step (fun K hK => ?_); go_simp; apply Exists.intro; refine ⟨fun l => ?_, hK _ ?_⟩; (go_at_call 43; refine (hsm.out _).mono ?_; rintro e w' ⟨rfl, hb⟩; exact ⟨rfl, hb⟩); clear hK K)
        iterate 2 (refine wpQE_step (fun K hK => ?_); go_simp; refine hK _ ?_; clear hK K)
        (refine wpQE_step (fun K hK => ?_); go_simp; apply Exists.intro; refine ⟨fun l => ?_, hK _ ?_⟩; (go_at_call 40; refine (awake_any _).mono ?_; rintro e w' ⟨rfl, hb⟩; exact ⟨rfl, hb⟩); clear hK K)
        iterate 2 (refine wpQE_step (fun K hK => ?_); go_simp; refine hK _ ?_; clear hK K)
        refine wpQE_nil ?_
        refine wpE_done (by as_aux_lemma => kernel_rfl) (fun w5 hb5 => ?_) 0
        have hB5 := hB4.out.trans (hb5.mono hB4.out.size)
        clear hst4 hb5
        replace hB5 := hide hB5
        go_wp2_with fail
        go_ret
        exact ⟨rfl, hB5.out⟩
end Snap
end Go.Proofs.Ytniieckjooahfaa
