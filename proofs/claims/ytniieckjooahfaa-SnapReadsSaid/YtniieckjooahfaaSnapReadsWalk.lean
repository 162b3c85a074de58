/- SnapReads, walked. Conditions: a slice of bytes and a slice of ops that read as lists. -/
import Derived.Test.YtniieckjooahfaaSnapPutsWalk
namespace Go.Proofs.Ytniieckjooahfaa
open Go.RowKit Go.ChangeShapes Go.WideShapes Go.ChangeAt Go.Deep
namespace Snap
/-- What the two laws on the first four bytes say. -/
theorem magic_take (X : List UInt8) : ((str X).toList == [68, 83, 84, 49]) = decide (X = magic) := magic_eq X
set_option maxRecDepth 20000 in
set_option maxHeartbeats 8000000 in
/-- Behind the reading. -/
theorem reads_walk0 (A : Option Addr) (n c : Nat) (xs : List UInt8) (L : Option Addr) (m d : Nat) (es0 : List OpD) (w : World) (hx : IsB w w.heap.size A n xs) (hnc : n ≤ c) (hcm : c ≤ maxLen) (hl : IsO w w.heap.size L m es0) (hmd : m ≤ d) (hdm : d ≤ maxLen)
    (_A' : Option Addr) (n' : Nat) (xs' : List UInt8) (hn' : n' ≤ 600) (hway : (600 < n ∧ n' = 600 ∧ xs' = xs.take 600) ∨ (¬ 600 < n ∧ n' = n ∧ xs' = xs)) :
    Calls Try.prog 10 #[.slice A n c, .slice L m d] w fun e w' => e = .returned (.bool true) ∧ Below w.heap.size w w' := by
  have hcm' := hcm
  unfold maxLen at hcm'
  have hi' : IsB w w.heap.size A n' xs' := by
    rcases hway with ⟨h1, rfl, rfl⟩ | ⟨h1, rfl, rfl⟩
    · exact hx.take (by omega)
    · exact hx
  have hnc' : n' ≤ c := by rcases hway with h | h <;> omega
  have hF := few_any L m d es0 w hl hmd hdm
  obtain ⟨es, hes⟩ : ∃ es, fewD es0 = es := ⟨_, rfl⟩
  have hel : es.length ≤ 40 := by rw [← hes]; simp only [fewD, List.length_map, List.length_take]; omega
  rw [hes] at hF
  replace hx := hide hx
  replace hF := hide hF
  replace hes := hide hes
  replace hi' := hide hi'
  replace hl := hide hl
  go_enter Try.func10, Try.ntmps10
  go_upto_if 13 with fail
  go_cut [0] (fun bv wx => bv = .slice A n' c ∧ w = wx)
  case first =>
    rcases hway with ⟨h1, h2, _⟩ | ⟨h1, h2, _⟩
    · have t1 : (600 : Int) < (n : Int) := by omega
      subst h2
      go_wp2_with fail
      go_meet
      exact ⟨rfl, rfl⟩
    · have t1 : ¬ (600 : Int) < (n : Int) := by omega
      subst h2
      go_wp2_with fail
      go_meet
      exact ⟨rfl, rfl⟩
  case rest =>
  obtain ⟨rfl, rfl⟩ := hcut
  clear hway
  go_wp2_with fail
  refine hF.out.mono ?_
  rintro e w1 ⟨A1, cA, rfl, hc1, hm1, hx1, hb1⟩
  obtain ⟨n1, hn1⟩ : ∃ n1, es.length = n1 := ⟨_, rfl⟩
  rw [hn1] at hc1 hx1 hel ⊢
  unfold maxLen at hm1
  clear hF
  replace hx1 := hide hx1
  replace hb1 := hide hb1
  replace hn1 := hide hn1
  go_wp2_with fail
  go_loopw [5, 6] (fun ov i wr => ∃ j : Nat, j ≤ n1 ∧ ov = .bool (okAll (es.take j)) ∧ i = .int .i64 (j : Int) ∧ Below w1.heap.size w1 wr) (fun _ i _ => n1 - (intOf i).toNat)
  case atStart => exact ⟨0, Nat.zero_le _, by simp [okAll], rfl, Below.refl _ _⟩
  case round =>
    obtain ⟨j, hj, rfl, rfl, hbr⟩ := hrel
    have hxr := hx1.out.on hbr
    have zr := hbr.size
    by_cases hlt : j < n1
    · obtain ⟨b, off, e, rfl, hbl, hge, hde, c0, c1, c2, c3, c4, c5⟩ := hxr.at hlt
      have t1 : (j : Int) < (n1 : Int) := by omega
      have t2 : (0 : Int) ≤ (j : Int) := by omega
      have hnx := okAll_next hge
      obtain ⟨⟨k, ys, s, h, q, up⟩, Ae, ce⟩ := e
      have hL := fun W => lawRight_any ⟨⟨k, ys, s, h, q, up⟩, Ae, ce⟩ W (Nat.le_trans hde.2.1 hde.2.2.1) hde.2.2.2
      simp only at c0 c1 c2 c3 c4 c5 hnx
      obtain ⟨sb, hsb⟩ : ∃ sb, str s = sb := ⟨_, rfl⟩
      obtain ⟨ok, hok⟩ : ∃ ok, okAll (es.take j) = ok := ⟨_, rfl⟩
      obtain ⟨r, hr⟩ : ∃ r, decide (okOp ⟨k, ys, s, h, q, up⟩) = r := ⟨_, rfl⟩
      rw [hok, hr] at hnx
      rw [hr] at hL
      unfold OpD.v at hL
      simp only at hL
      rw [hsb] at c2 hL
      rw [hok]
      clear hge hxr hde
      replace hbr := hide hbr
      replace hnx := hide hnx
      replace hsb := hide hsb
      replace hok := hide hok
      replace hr := hide hr
      replace hL := hide hL
      rcases ok with _ | _
      · go_wp2_with fail
        exact ⟨⟨j + 1, by omega, by rw [hnx.out]; rfl, by go_num, hbr.out⟩, by simp [intOf]; omega⟩
      · go_wp2_with fail
        refine (hL.out _).mono ?_
        rintro e w4 ⟨rfl, hb4⟩
        have hB4 := hbr.out.trans (hb4.mono zr)
        clear hb4
        replace hB4 := hide hB4
        go_wp2_with fail
        exact ⟨⟨j + 1, by omega, by rw [hnx.out]; rfl, by go_num, hB4.out⟩, by simp [intOf]; omega⟩
    · have t1 : ¬ (j : Int) < (n1 : Int) := by omega
      have htj : es.take j = es := List.take_of_length_le (by rw [hn1.out]; omega)
      rw [htj]
      have hBr := hb1.out.trans (hbr.mono hb1.out.size)
      have hir := hi'.out.on hBr
      have hW1 := hx1.out.on hbr
      clear hxr htj
      obtain ⟨ok, hok⟩ : ∃ ok, okAll es = ok := ⟨_, rfl⟩
      have hRd := read_any A n' c xs' wr hir hnc' hcm
      rw [hok]
      replace hbr := hide hbr
      replace hok := hide hok
      replace hBr := hide hBr
      replace hW1 := hide hW1
      replace hRd := hide hRd
      replace hir := hide hir
      go_wp2_with fail
      refine hRd.out.mono ?_
      rintro e w3 ⟨A3, c3, es3, rfl, hes3, hi3, hc3, hm3, hb3⟩
      have hB3 := hBr.out.trans (hb3.mono hBr.out.size)
      have hx3 := hW1.out.on hb3
      have hi23 := hir.out.on hb3
      obtain ⟨E, hE⟩ : ∃ E, readE xs' = E := ⟨_, rfl⟩
      have hkn := read_known xs'
      rw [hE] at hkn ⊢
      have hxl := hi23.1
      have hst4 : 4 ≤ n' → (convert 35 9 (.slice A 4 c)).run Try.prog w3 = .ok (.string (str (xs'.take 4))) w3 := fun h => (hi23.take h).str c
      obtain ⟨n3, hn3⟩ : ∃ n3, es3.length = n3 := ⟨_, rfl⟩
      rw [hn3] at hi3 hc3 ⊢
      unfold maxLen at hm3
      clear hb3
      replace hB3 := hide hB3
      replace hx3 := hide hx3
      replace hi23 := hide hi23
      replace hi3 := hide hi3
      replace hes3 := hide hes3
      replace hE := hide hE
      replace hn3 := hide hn3
      replace hkn := hide hkn
      replace hst4 := hide hst4
      go_upto_region 10 with fail
      go_cut [58] (fun bv wx => bv = .bool false ∧ w3 = wx)
      case first =>
        by_cases h4 : 4 ≤ n'
        · have t4 : (4 : Int) ≤ (n' : Int) := by omega
          have hs := hst4.out h4
          have hm := magic_eq (xs'.take 4)
          by_cases hmg : xs'.take 4 = magic
          · rw [decide_eq_true hmg] at hm
            clear hmg
            go_wp2_with fail
            go_meet
            exact ⟨rfl, rfl⟩
          · rw [decide_eq_false hmg] at hm
            have hE4 : E = 4 := by rw [← hE.out]; exact read_other xs' (by omega) hmg
            clear hmg hkn
            subst hE4
            go_wp2_with fail
            go_meet
            exact ⟨rfl, rfl⟩
        · have t4 : ¬ (4 : Int) ≤ (n' : Int) := by omega
          have hE2 : E = 2 := by rw [← hE.out]; exact read_short xs' (by omega)
          clear hst4 hkn
          subst hE2
          go_wp2_with fail
          go_meet
          exact ⟨rfl, rfl⟩
      case rest =>
      obtain ⟨rfl, rfl⟩ := hcut
      clear hst4
      by_cases hE0 : E = 0
      · have hRE0 : readE xs' = 0 := by rw [hE.out, hE0]
        obtain ⟨hr1, hr2, hr3⟩ := read_back xs' hRE0
        rw [← hes3.out] at hr1 hr2 hr3
        rw [List.length_map, hn3.out] at hr3
        subst hE0
        have hst := fun l : Later w3 => (hi23.out.later l).str c
        clear hRE0
        replace hr1 := hide hr1
        replace hr2 := hide hr2
        go_wp2_with fail
        go_loopw [10] (fun i wr2 => ∃ j : Nat, j ≤ n3 ∧ i = .int .i64 (j : Int) ∧ Below w3.heap.size w3 wr2) (fun i _ => n3 - (intOf i).toNat)
        case atStart => exact ⟨0, Nat.zero_le _, rfl, Below.refl _ _⟩
        case round =>
          obtain ⟨p, hp, rfl, hbr2⟩ := hrel
          have hxr2 := hi3.out.on hbr2
          have zr2 := hbr2.size
          by_cases hlt2 : p < n3
          · obtain ⟨b, off, e, rfl, hbl, hge, hde, c0, c1, c2, c3, c4, c5⟩ := hxr2.at hlt2
            have t3 : (p : Int) < (n3 : Int) := by omega
            have t4 : (0 : Int) ≤ (p : Int) := by omega
            have hL := fun W => lawRight_any e W (Nat.le_trans hde.2.1 hde.2.2.1) hde.2.2.2
            have hoe : okOp e.o := hr1.out _ (List.mem_map.2 ⟨e, List.mem_of_getElem? hge, rfl⟩)
            rw [decide_eq_true hoe] at hL
            obtain ⟨⟨k, ys, s, h, q, up⟩, Ae, ce⟩ := e
            simp only at c0 c1 c2 c3 c4 c5
            unfold OpD.v at hL
            simp only at hL
            obtain ⟨sb, hsb⟩ : ∃ sb, str s = sb := ⟨_, rfl⟩
            rw [hsb] at c2 hL
            clear hge hxr2 hde hst hoe
            replace hbr2 := hide hbr2
            replace hsb := hide hsb
            replace hL := hide hL
            go_wp2_with fail
            refine (hL.out _).mono ?_
            rintro e w4 ⟨rfl, hb4⟩
            have hB4 := hbr2.out.trans (hb4.mono zr2)
            clear hb4
            replace hB4 := hide hB4
            go_wp2_with fail
            exact ⟨⟨p + 1, by omega, by go_num, hB4.out⟩, by simp [intOf]; omega⟩
          · have t3 : ¬ (p : Int) < (n3 : Int) := by omega
            have hB5 := hB3.out.trans (hbr2.mono hB3.out.size)
            have hi5 := hi23.out.on hbr2
            have hst5 := fun l : Later wr => (hi5.later l).str c
            have hLB := fun l : Later wr => lawBytes_any A3 n3 c3 es3 l.w (hxr2.later l) hc3 (by unfold maxLen; omega) hr3 (fun e he => hr1.out _ (List.mem_map.2 ⟨e, he, rfl⟩))
            clear hst hxr2 hi5
            replace hB5 := hide hB5
            replace hLB := hide hLB
            replace hbr2 := hide hbr2
            go_upto_region 20 with fail
            refine wp_region_L (by as_aux_lemma => kernel_rfl) ?_
            refine wpE_seg 0 1 (fuel := 9) (by as_aux_lemma => kernel_rfl) (fun d _ _ _ _ h => by cases d <;> exact h) (by as_aux_lemma => kernel_rfl) (by as_aux_lemma => kernel_rfl) ?_
            simp only [List.drop_zero, List.take_succ_cons, List.take_zero]
            iterate 1 (refine wpQE_step (fun K hK => ?_); go_simp; refine hK _ ?_; clear hK K)
            refine wpQE_nil ?_
            refine wpE_seg 3 2 (fuel := 7) (by as_aux_lemma => kernel_rfl) (fun d _ _ _ _ h => by cases d <;> exact h) (by as_aux_lemma => kernel_rfl) (by as_aux_lemma => kernel_rfl) ?_
            simp only [List.drop_succ_cons, List.drop_zero, List.take_succ_cons, List.take_zero]
            iterate 2 (refine wpQE_step (fun K hK => ?_); go_simp; refine hK _ ?_; clear hK K)
            refine wpQE_nil ?_
            refine wpE_step 1 (fuel := 6) rfl (by as_aux_lemma => kernel_rfl) (fun l K hK => ?_)
            go_simp
            go_at_call 42
            refine (hLB.out l).mono ?_
            rintro e w4 ⟨v4, rfl, hown4, hb4⟩
            obtain ⟨A4, c4, rfl, hc4, hm4, hi4⟩ := hown4.form
            refine hK _ _ hb4 ?_
            clear hK K hown4
            have hob : encL (ops es3) = xs' := hr2.out
            rw [hob, hxl] at hi4 hc4
            rw [hob, hxl]
            have hB6 := hB5.out.trans ((l.hb.trans (hb4.mono l.hb.size)).mono hB5.out.size)
            have hst4 := fun l2 : Later w4 => (hi4.later l2).str c4
            clear hi4 hb4 hst5
            replace hB6 := hide hB6
            refine wpE_seg 2 1 (fuel := 5) (by as_aux_lemma => kernel_rfl) (fun d _ _ _ _ h => by cases d <;> exact h) (by as_aux_lemma => kernel_rfl) (by as_aux_lemma => kernel_rfl) ?_
            simp only [List.drop_succ_cons, List.drop_zero, List.take_succ_cons, List.take_zero]
            iterate 1 (refine wpQE_step (fun K hK => ?_); go_simp; refine hK _ ?_; clear hK K)
            refine wpQE_nil ?_
            refine wpE_seg 5 5 (fuel := 0) (by as_aux_lemma => kernel_rfl) (fun d _ _ _ _ h => by cases d <;> exact h) (by as_aux_lemma => kernel_rfl) (by as_aux_lemma => kernel_rfl) ?_
            simp only [List.drop_succ_cons, List.drop_zero, List.take_succ_cons, List.take_zero]
            iterate 2 (refine wpQE_step (fun K hK => ?_); go_simp; refine hK _ ?_; clear hK K)
            (refine wpQE_step (fun K hK => ?_); go_simp; apply Exists.intro; refine ⟨fun l => ?_, hK _ ?_⟩; (go_at_call 40; refine (awake_any _).mono ?_; rintro e w' ⟨rfl, hb⟩; exact ⟨rfl, hb⟩); clear hK K)
            iterate 2 (refine wpQE_step (fun K hK => ?_); go_simp; refine hK _ ?_; clear hK K)
            refine wpQE_nil ?_
            refine wpE_done (by as_aux_lemma => kernel_rfl) (fun w5 hb5 => ?_) 0
            have hB7 := hB6.out.trans (hb5.mono hB6.out.size)
            clear hst4 hb5
            replace hB7 := hide hB7
            go_wp2_with fail
            go_ret
            exact ⟨rfl, hB7.out⟩
      · have t5 : (E == 0) = false := by simpa using hE0
        have hn30 : n3 = 0 := by
          rw [← hn3.out, ← List.length_map (f := OpD.o), hes3.out]
          unfold readL
          rw [hE.out, if_pos hE0]
          rfl
        subst hn30
        replace hE0 := hide hE0
        go_upto_region 13 with fail
        go_cut [9] (fun bv wx => bv = .bool true ∧ w3 = wx)
        case first =>
          have hE0' := hE0.out
          rcases hkn.out with h | h | h | h | h
          · exact absurd h hE0'
          all_goals
            subst h
            go_wp2_with fail
            go_meet
            exact ⟨rfl, rfl⟩
        case rest =>
        obtain ⟨rfl, rfl⟩ := hcut
        have hst := fun l : Later w3 => (hi23.out.later l).str c
        rcases ok with _ | _
        · go_upto_region 14 with fail
          refine wp_region_L (by as_aux_lemma => kernel_rfl) ?_
          refine wpE_seg 0 22 (fuel := 0) (by as_aux_lemma => kernel_rfl) (fun d _ _ _ _ h => by cases d <;> exact h) (by as_aux_lemma => kernel_rfl) (by as_aux_lemma => kernel_rfl) ?_
          simp only [List.drop_zero, List.take_succ_cons, List.take_zero]
          iterate 19 (refine wpQE_step (fun K hK => ?_); go_simp; refine hK _ ?_; clear hK K)
          (refine wpQE_step (fun K hK => ?_); go_simp; apply Exists.intro; refine ⟨fun l => ?_, hK _ ?_⟩; (go_at_call 40; refine (awake_any _).mono ?_; rintro e w' ⟨rfl, hb⟩; exact ⟨rfl, hb⟩); clear hK K)
          iterate 2 (refine wpQE_step (fun K hK => ?_); go_simp; refine hK _ ?_; clear hK K)
          refine wpQE_nil ?_
          refine wpE_done (by as_aux_lemma => kernel_rfl) (fun w5 hb5 => ?_) 0
          have hB7 := hB3.out.trans (hb5.mono hB3.out.size)
          clear hst hb5
          replace hB7 := hide hB7
          go_wp2_with fail
          go_ret
          exact ⟨rfl, hB7.out⟩
        · have hall : ∀ e ∈ es, okOp e.o := fun e he => by
            have h1 := hok.out
            unfold okAll at h1
            simpa using List.all_eq_true.1 h1 e he
          have hops : ∀ o ∈ ops es, okOp o := fun o ho => by
            obtain ⟨e, he, rfl⟩ := List.mem_map.1 ho
            exact hall e he
          obtain ⟨hre, _⟩ := read_enc (ops es) hops (by simp only [ops, List.length_map]; rw [hn1.out]; omega)
          have hdiff : ¬ encL (ops es) = xs' := fun h => by
            rw [h, hE.out] at hre
            exact hE0.out hre
          have hbeq : ((str (encL (ops es))).toList == (str xs').toList) = false := by
            rw [show (str (encL (ops es))).toList = encL (ops es) from ByteArray.toList_mk _, show (str xs').toList = xs' from ByteArray.toList_mk _, beq_eq_false_iff_ne]
            exact hdiff
          have hLB := fun l : Later w3 => lawBytes_any A1 n1 cA es l.w (hx3.out.later l) hc1 (by unfold maxLen; omega) (by omega) hall
          clear hdiff hre hops
          replace hall := hide hall
          replace hLB := hide hLB
          go_upto_region 14 with fail
          refine wp_region_L (by as_aux_lemma => kernel_rfl) ?_
          refine wpE_seg 0 11 (fuel := 11) (by as_aux_lemma => kernel_rfl) (fun d _ _ _ _ h => by cases d <;> exact h) (by as_aux_lemma => kernel_rfl) (by as_aux_lemma => kernel_rfl) ?_
          simp only [List.drop_zero, List.take_succ_cons, List.take_zero]
          iterate 11 (refine wpQE_step (fun K hK => ?_); go_simp; refine hK _ ?_; clear hK K)
          refine wpQE_nil ?_
          refine wpE_seg 13 2 (fuel := 9) (by as_aux_lemma => kernel_rfl) (fun d _ _ _ _ h => by cases d <;> exact h) (by as_aux_lemma => kernel_rfl) (by as_aux_lemma => kernel_rfl) ?_
          simp only [List.drop_succ_cons, List.drop_zero, List.take_succ_cons, List.take_zero]
          iterate 2 (refine wpQE_step (fun K hK => ?_); go_simp; refine hK _ ?_; clear hK K)
          refine wpQE_nil ?_
          clear hst
          refine wpE_step 11 (fuel := 8) rfl (by as_aux_lemma => kernel_rfl) (fun l K hK => ?_)
          go_simp
          go_at_call 42
          refine (hLB.out l).mono ?_
          rintro e w4 ⟨v4, rfl, hown4, hb4⟩
          obtain ⟨A4, c4, rfl, hc4, hm4, hi4⟩ := hown4.form
          refine hK _ _ hb4 ?_
          clear hK K hown4
          have hB6 := hB3.out.trans ((l.hb.trans (hb4.mono l.hb.size)).mono hB3.out.size)
          have hst4 := fun l2 : Later w4 => (hi4.later l2).str c4
          clear hi4 hb4
          replace hB6 := hide hB6
          refine wpE_seg 12 1 (fuel := 7) (by as_aux_lemma => kernel_rfl) (fun d _ _ _ _ h => by cases d <;> exact h) (by as_aux_lemma => kernel_rfl) (by as_aux_lemma => kernel_rfl) ?_
          simp only [List.drop_succ_cons, List.drop_zero, List.take_succ_cons, List.take_zero]
          iterate 1 (refine wpQE_step (fun K hK => ?_); go_simp; refine hK _ ?_; clear hK K)
          refine wpQE_nil ?_
          refine wpE_seg 15 7 (fuel := 0) (by as_aux_lemma => kernel_rfl) (fun d _ _ _ _ h => by cases d <;> exact h) (by as_aux_lemma => kernel_rfl) (by as_aux_lemma => kernel_rfl) ?_
          simp only [List.drop_succ_cons, List.drop_zero, List.take_succ_cons, List.take_zero]
          iterate 4 (refine wpQE_step (fun K hK => ?_); go_simp; refine hK _ ?_; clear hK K)
          (refine wpQE_step (fun K hK => ?_); go_simp; apply Exists.intro; refine ⟨fun l => ?_, hK _ ?_⟩; (go_at_call 40; refine (awake_any _).mono ?_; rintro e w' ⟨rfl, hb⟩; exact ⟨rfl, hb⟩); clear hK K)
          iterate 2 (refine wpQE_step (fun K hK => ?_); go_simp; refine hK _ ?_; clear hK K)
          refine wpQE_nil ?_
          refine wpE_done (by as_aux_lemma => kernel_rfl) (fun w5 hb5 => ?_) 0
          have hB7 := hB6.out.trans (hb5.mono hB6.out.size)
          clear hst4 hb5
          replace hB7 := hide hB7
          go_wp2_with fail
          go_ret
          exact ⟨rfl, hB7.out⟩
theorem reads_walk (A : Option Addr) (n c : Nat) (xs : List UInt8) (L : Option Addr) (m d : Nat) (es0 : List OpD) (w : World) (hx : IsB w w.heap.size A n xs) (hnc : n ≤ c) (hcm : c ≤ maxLen) (hl : IsO w w.heap.size L m es0) (hmd : m ≤ d) (hdm : d ≤ maxLen) :
    Calls Try.prog 10 #[.slice A n c, .slice L m d] w fun e w' => e = .returned (.bool true) ∧ Below w.heap.size w w' := by
  by_cases h : 600 < n
  · exact reads_walk0 A n c xs L m d es0 w hx hnc hcm hl hmd hdm A 600 (xs.take 600) (by omega) (.inl ⟨h, rfl, rfl⟩)
  · exact reads_walk0 A n c xs L m d es0 w hx hnc hcm hl hmd hdm A n xs (by omega) (.inr ⟨h, rfl, rfl⟩)
end Snap
end Go.Proofs.Ytniieckjooahfaa
