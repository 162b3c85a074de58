/- Law 44's bytes, by contract: ops' bytes. Conditions: a slice of ops that reads as a list, at most 2048, all of which may be kept. -/
import Derived.Test.YtniieckjooahfaaSnapBytes
namespace Go.Proofs.Ytniieckjooahfaa
open Go.RowKit Go.ChangeShapes Go.WideShapes Go.ChangeAt Go.Deep
namespace Snap
set_option maxHeartbeats 1000000 in
theorem four_full (ad : Addr) (n B0 : Nat) (xs : List UInt8) (N : Nat) (w : World) (hf : IsB w B0 (some ad) n xs) (hB0 : B0 ≤ w.heap.size) (hN : N < 4294967296) (hl : n ≤ 549755813888) :
    Calls Try.prog 90 #[.slice (some ad) n n, .int .i64 (N : Int)] w fun e w' => ∃ v', e = .returned v' ∧ OwnB w' w.heap.size v' (xs ++ beB N 4) ∧ Below w.heap.size w w' := by
  replace hf := hide hf
  go_enter Try.func90, Try.ntmps90
  go_wp2_with (at_builtin; refine wpl_full_lit rfl (.tmp 5) (.tmp 17) rfl ad n xs (beB N 4) 4 4 B0 rfl rfl ?_ (beB_length _ _) hf.out hB0 (by omega) (by omega) ?_)
  · rw [beB4]
    exact list4 (u8m (by omega)) (u8m (by omega)) (u8m (by omega)) (u8m (by omega))
  intro v' w' h1 h2
  replace h1 := hide h1
  replace h2 := hide h2
  go_wp2_with fail
  go_ret
  exact ⟨v', rfl, h1.out, h2.out⟩
set_option maxRecDepth 20000 in
set_option maxHeartbeats 8000000 in
theorem lawBytes_any (A : Option Addr) (n c : Nat) (es : List OpD) (w : World) (hx : IsO w w.heap.size A n es) (hnc : n ≤ c) (hcm : c ≤ maxLen) (hn : n ≤ 2048) (hall : ∀ e ∈ es, okOp e.o) :
    Calls Try.prog 42 #[.slice A n c] w fun x w' => ∃ v, x = .returned v ∧ OwnB w' w.heap.size v (encL (ops es)) ∧ Below w.heap.size w w' := by
  unfold maxLen at hcm
  have hel := hx.1
  obtain ⟨w1, hcv0, hi1, hb1, hz1⟩ := bytes_const w magic #[.int .u8 68, .int .u8 83, .int .u8 84, .int .u8 49] rfl 4 rfl
  have hcv := hcv0 _ rfl
  clear hcv0
  have hs1 : w.heap.size + 1 ≤ w1.heap.size := by omega
  clear hz1
  replace hx := hide hx
  replace hi1 := hide hi1
  replace hb1 := hide hb1
  replace hall := hide hall
  go_enter Try.func42, Try.ntmps42
  go_wp2_with fail
  refine (four_full ⟨w.heap.size, 0, none⟩ 4 _ magic n w1 hi1.out hs1 (by omega) (by omega)).mono ?_
  rintro e w2 ⟨v2, rfl, hown2', hb2⟩
  have hown2 := hown2'.weaken hb1.out.size
  have hB2 := hb1.out.trans (hb2.mono hb1.out.size)
  clear hown2' hb2 hcv
  replace hown2 := hide hown2
  replace hB2 := hide hB2
  go_wp2_with fail
  go_loopw [3, 4] (fun u i wr => ∃ j : Nat, j ≤ n ∧ i = .int .i64 (j : Int) ∧ OwnB wr w.heap.size u ((magic ++ beB n 4) ++ bodyL (ops (es.take j))) ∧ Below w.heap.size w wr) (fun _ i _ => n - (intOf i).toNat)
  case atStart => exact ⟨0, Nat.zero_le _, rfl, by simpa [bodyL, ops] using hown2.out, hB2.out⟩
  case round =>
    obtain ⟨j, hj, rfl, hu, hbr⟩ := hrel
    have hxr := hx.out.below hbr
    have zr := hbr.size
    replace hu := hide hu
    replace hbr := hide hbr
    replace hxr := hide hxr
    by_cases hlt : j < n
    · obtain ⟨b, off, e, rfl, hbl, hge, hde, c0, c1, c2, c3, c4, c5⟩ := hxr.out.at hlt
      have t1 : (j : Int) < (n : Int) := by omega
      have t2 : (0 : Int) ≤ (j : Int) := by omega
      have hmem := List.mem_of_getElem? hge
      have hop := hall.out e hmem
      obtain ⟨⟨k, ys, s, h, m, up⟩, Ae, ce⟩ := e
      obtain ⟨h1, h2, h3, h4, h5, h6, h7, h8⟩ := hop
      simp only at c0 c1 c2 c3 c4 c5 h1 h2 h3 h4 h5 h6 h7 h8
      obtain ⟨k, rfl⟩ : ∃ j : Nat, k = (j : Int) := ⟨k.toNat, by omega⟩
      obtain ⟨h, rfl⟩ : ∃ j : Nat, h = (j : Int) := ⟨h.toNat, by omega⟩
      obtain ⟨m, rfl⟩ : ∃ j : Nat, m = (j : Int) := ⟨m.toNat, by omega⟩
      have hss := str_size s
      obtain ⟨sb, hsb⟩ : ∃ sb, str s = sb := ⟨_, rfl⟩
      rw [hsb] at hss c2
      obtain ⟨pre, hpre⟩ : ∃ pre, (magic ++ beB n 4) ++ bodyL (ops (es.take j)) = pre := ⟨_, rfl⟩
      have hpl : pre.length ≤ 137438953472 := by
        have h1 := body_le (ops (es.take j)) (fun o ho => by
          obtain ⟨e, he, rfl⟩ := List.mem_map.1 ho
          exact hall.out e (List.mem_of_mem_take he))
        have h2 : (ops (es.take j)).length ≤ 2048 := by simp only [ops, List.length_map, List.length_take]; omega
        have h3 := Nat.le_trans h1 (Nat.mul_le_mul_right _ h2)
        rw [← hpre]
        simp [beB_length, magic]
        omega
      have hnext : pre ++ encP ⟨(k : Int), ys, s, (h : Int), (m : Int), up⟩ = (magic ++ beB n 4) ++ bodyL (ops (es.take (j + 1))) := by
        obtain ⟨hj1, e1⟩ := List.getElem?_eq_some_iff.1 hge
        rw [List.take_succ_eq_append_getElem hj1, e1, ← hpre]
        simp [bodyL, ops]
      have hu' := hu.out
      rw [hpre] at hu'
      have hown3 := hu'.alloc (.cells #[.int .i64 (k : Int), .slice Ae ys.length ce, .string sb, .int .i64 (h : Int), .int .i64 (m : Int), .bool up] 77)
      have hv3 := hu'.off (Nat.le_refl _)
      have hwr3 : Below w.heap.size wr (wr.alloc (.cells #[.int .i64 (k : Int), .slice Ae ys.length ce, .string sb, .int .i64 (h : Int), .int .i64 (m : Int), .bool up] 77)) := (Below.refl _ _).alloc zr _
      have hbox3 := blk_new wr 77 #[.int .i64 (k : Int), .slice Ae ys.length ce, .string sb, .int .i64 (h : Int), .int .i64 (m : Int), .bool up]
      obtain ⟨w3, hw3⟩ : ∃ w3, wr.alloc (.cells #[.int .i64 (k : Int), .slice Ae ys.length ce, .string sb, .int .i64 (h : Int), .int .i64 (m : Int), .bool up] 77) = w3 := ⟨_, rfl⟩
      have hz3 : wr.heap.size < w3.heap.size := by rw [← hw3]; simp
      rw [hw3] at hown3 hbox3 hwr3
      have hcg := blk_cell hbox3
      have hd3 := hde.1.below hwr3
      have hB3 := hbr.out.trans hwr3
      obtain ⟨u, hue⟩ : ∃ u, upB up = u := ⟨_, rfl⟩
      clear hu'
      replace hge := hide hge
      replace hde := hide hde
      replace hown3 := hide hown3
      replace hbox3 := hide hbox3
      replace hwr3 := hide hwr3
      replace hpre := hide hpre
      replace hnext := hide hnext
      replace hsb := hide hsb
      replace hue := hide hue
      replace hd3 := hide hd3
      replace hB3 := hide hB3
      replace hv3 := hide hv3
      replace hmem := hide hmem
      go_upto_if 23 with fail
      go_cut [6] (fun uv wx => uv = .int .u8 (u.toNat : Int) ∧ w3 = wx)
      case first =>
        rcases up with _ | _
        · obtain rfl := hue.out
          go_wp2_with fail
          go_meet
          exact ⟨rfl, rfl⟩
        · obtain rfl := hue.out
          go_wp2_with fail
          go_meet
          exact ⟨rfl, rfl⟩
      case rest =>
      obtain ⟨rfl, rfl⟩ := hcut
      clear hw3 c0 c1 c2 c3 c4 c5
      go_wp2_with (at_builtin; refine wpl_lit_bv rfl (.tmp 24) (.tmp 29) rfl w.heap.size _ pre [UInt8.ofNat k, u] 2 2 rfl rfl ?_ rfl hown3.out (by omega) (by omega) ?_)
      · exact ⟨u8m (x := k) (by omega), rfl⟩
      intro v4 w4 hown4 hg4
      have hB4 := hB3.out.trans (hg4.below hown3.out (by omega))
      have hr4 := hwr3.out.trans (hg4.below hown3.out (by omega))
      have z4 := hg4.grown.size
      obtain ⟨hbox4, hv4⟩ := hg4.box hbox3.out hv3.out
      clear hcg hg4 hown3 hB3 hbox3 hv3 hd3 hwr3
      replace hown4 := hide hown4
      replace hB4 := hide hB4
      replace hbox4 := hide hbox4
      replace hv4 := hide hv4
      replace hr4 := hide hr4
      go_upto_region 10 with fail
      refine wp_region_S w4.heap.size (fun k => v4.ownBlock = some k) (by as_aux_lemma => kernel_rfl) ?_
      intro wd hbd
      have zd := hbd.size
      have hboxd := blk_below hbd (show wr.heap.size < w4.heap.size by omega) hbox4.out
      have hownd := hown4.out.below hbd
      have hBd := hB4.out.trans (hbd.mono (by omega))
      have hrd := hr4.out.trans (hbd.mono (by omega))
      have hcl := fun (l : KeptSW w4.heap.size (fun k => v4.ownBlock = some k) wd) (o : Nat) => blk_cell (l.blk hboxd (by omega) hv4.out) o
      replace hboxd := hide hboxd
      replace hownd := hide hownd
      replace hBd := hide hBd
      replace hbd := hide hbd
      replace hrd := hide hrd
      refine wpS_seg w4.heap.size (fun k => v4.ownBlock = some k) 0 3 (fuel := 9) (by as_aux_lemma => kernel_rfl) (fun d _ _ _ _ h => by cases d <;> exact h) (by as_aux_lemma => kernel_rfl) (by as_aux_lemma => kernel_rfl) ?_
      simp only [List.drop_zero, List.take_succ_cons, List.take_zero]
      iterate 3 (refine wpQS_step (fun K hK => ?_); go_simp; refine hK _ ?_; clear hK K)
      refine wpQF_nil ?_
      refine wpS_seg w4.heap.size (fun k => v4.ownBlock = some k) 4 2 (fuel := 7) (by as_aux_lemma => kernel_rfl) (fun d _ _ _ _ h => by cases d <;> exact h) (by as_aux_lemma => kernel_rfl) (by as_aux_lemma => kernel_rfl) ?_
      simp only [List.drop_succ_cons, List.drop_zero, List.take_succ_cons, List.take_zero]
      iterate 2 (refine wpQS_step (fun K hK => ?_); go_simp; refine hK _ ?_; clear hK K)
      refine wpQF_nil ?_
      refine wpS_seg w4.heap.size (fun k => v4.ownBlock = some k) 7 3 (fuel := 4) (by as_aux_lemma => kernel_rfl) (fun d _ _ _ _ h => by cases d <;> exact h) (by as_aux_lemma => kernel_rfl) (by as_aux_lemma => kernel_rfl) ?_
      simp only [List.drop_succ_cons, List.drop_zero, List.take_succ_cons, List.take_zero]
      iterate 3 (refine wpQS_step (fun K hK => ?_); go_simp; refine hK _ ?_; clear hK K)
      refine wpQF_nil ?_
      clear hcl
      refine wpF_step 3 rfl (by as_aux_lemma => kernel_rfl) (fun K hK => ?_)
      go_simp
      go_at_call 90
      refine (four_any w.heap.size _ _ h _ hownd.out (by omega) (by omega) (by simp; omega)).mono ?_
      rintro e w5 ⟨v5, rfl, hown5, hg5⟩
      refine hK _ _ (keptS_row hg5.grown (by omega) (.inl rfl)) ?_
      clear hK K
      have hm5 := hg5.moved.from (S := w4.heap.size) (by omega)
      have z5 := hg5.grown.size
      have hB5 := hBd.out.trans (hg5.below hownd.out (by omega))
      obtain ⟨hbox5, hv5⟩ := hg5.box hboxd.out hv4.out
      have hr5 := hrd.out.trans (hg5.below hownd.out (by omega))
      replace hg5 := hide hg5
      replace hB5 := hide hB5
      replace hown5 := hide hown5
      replace hbox5 := hide hbox5
      replace hv5 := hide hv5
      replace hr5 := hide hr5
      refine wpF_step 6 rfl (by as_aux_lemma => kernel_rfl) (fun K hK => ?_)
      go_simp
      go_at_call 90
      refine (four_any w.heap.size _ _ m _ hown5.out (by omega) (by omega) (by simp [beB_length]; omega)).mono ?_
      rintro e w6 ⟨v6, rfl, hown6, hg6⟩
      refine hK _ _ (keptS_row hg6.grown (by omega) hm5) ?_
      clear hK K
      have hm6 : v6.ownBlock = v4.ownBlock ∨ ∃ k, v6.ownBlock = some k ∧ w4.heap.size ≤ k := by
        rcases hg6.moved with e | ⟨k, e, hk⟩
        · rw [e]; exact hm5
        · exact .inr ⟨k, e, by omega⟩
      have z6 := hg6.grown.size
      have hB6 := hB5.out.trans (hg6.below hown5.out (by omega))
      obtain ⟨hbox6, hv6⟩ := hg6.box hbox5.out hv5.out
      have hr6 := hr5.out.trans (hg6.below hown5.out (by omega))
      replace hg6 := hide hg6
      replace hB6 := hide hB6
      replace hown6 := hide hown6
      replace hbox6 := hide hbox6
      replace hv6 := hide hv6
      replace hr6 := hide hr6
      refine wpF_step 10 rfl (by as_aux_lemma => kernel_rfl) (fun K hK => ?_)
      go_simp
      go_at_call 90
      refine (four_any w.heap.size _ _ ys.length _ hown6.out (by omega) (by omega) (by simp [beB_length]; omega)).mono ?_
      rintro e w7 ⟨v7, rfl, hown7, hg7⟩
      refine hK _ _ (keptS_row hg7.grown (by omega) hm6) ?_
      clear hK K
      have z7 := hg7.grown.size
      have hB7 := hB6.out.trans (hg7.below hown6.out (by omega))
      obtain ⟨hbox7, hv7⟩ := hg7.box hbox6.out hv6.out
      have hr7 := hr6.out.trans (hg7.below hown6.out (by omega))
      have hcg := blk_cell hbox7
      have hd7 := hde.out.1.below hr7
      refine wpF_step 11 rfl (by as_aux_lemma => kernel_rfl) (fun K hK => ?_)
      go_simp
      refine hK _ _ (keptS_refl _ _ _) ?_
      clear hK K
      refine wpF_done (by as_aux_lemma => kernel_rfl) ?_ 0
      clear hm5 hm6 hg5 hg6 hg7 hB5 hB6 hbox5 hbox6 hv5 hv6 hr5 hr6
      replace hown7 := hide hown7
      replace hB7 := hide hB7
      replace hbox7 := hide hbox7
      replace hv7 := hide hv7
      replace hr7 := hide hr7
      replace hd7 := hide hd7
      go_wp2_with (at_builtin; refine wpl_src_bv rfl (.tmp 42) (.tmp 44) rfl w.heap.size _ _ ys Ae ys.length ce w.heap.size rfl rfl hown7.out hd7.out (by omega) ?_ ?_)
      · simp [beB_length]; omega
      intro v8 w8 hown8 hg8
      have z8 := hg8.grown.size
      have hB8 := hB7.out.trans (hg8.below hown7.out (by omega))
      obtain ⟨hbox8, hv8⟩ := hg8.box hbox7.out hv7.out
      clear hcg hown7 hB7 hbox7 hv7 hr7 hd7 hg8
      have hcg := blk_cell hbox8
      replace hown8 := hide hown8
      replace hB8 := hide hB8
      replace hbox8 := hide hbox8
      replace hv8 := hide hv8
      go_wp2_with (at_builtin; refine wpl_lit_bv rfl (.tmp 46) (.tmp 51) rfl w.heap.size _ _ [UInt8.ofNat s.length] 1 1 rfl rfl ?_ rfl hown8.out (by omega) ?_ ?_)
      · rw [List.map_cons, List.map_nil]
        refine congrArg (fun x => [x]) ?_
        exact u8m (x := s.length) (by omega)
      · simp [beB_length]; omega
      intro v9 w9 hown9 hg9
      have z9 := hg9.grown.size
      have hB9 := hB8.out.trans (hg9.below hown8.out (by omega))
      obtain ⟨hbox9, hv9⟩ := hg9.box hbox8.out hv8.out
      clear hcg hown8 hB8 hbox8 hv8 hg9
      have hcg := blk_cell hbox9
      have hse := congrArg Value.string hsb.out.symm
      replace hown9 := hide hown9
      replace hB9 := hide hB9
      replace hbox9 := hide hbox9
      replace hv9 := hide hv9
      replace hse := hide hse
      go_wp2_with (at_builtin; refine wpl_app_s rfl (.tmp 53) (.tmp 55) rfl w.heap.size _ _ s rfl hse.out hown9.out (by omega) ?_ ?_)
      · simp [beB_length]; omega
      intro v10 w10 hown10 hg10
      have hB10 := hB9.out.trans (hown9.out.belowRow hg10 (by omega))
      have hown11 : OwnB w10 w.heap.size v10 ((magic ++ beB n 4) ++ bodyL (ops (es.take (j + 1)))) := by
        rw [← hnext.out]
        have h1 : encP ⟨(k : Int), ys, s, (h : Int), (m : Int), up⟩ = [UInt8.ofNat k, u] ++ (beB h 4 ++ (beB m 4 ++ (beB ys.length 4 ++ (ys ++ ([UInt8.ofNat s.length] ++ s))))) := by
          unfold encP
          rw [← hue.out]
          rfl
        rw [h1]
        simpa using hown10
      clear hown10 hg10
      replace hown11 := hide hown11
      replace hB10 := hide hB10
      go_wp2_with fail
      exact ⟨⟨j + 1, by omega, by go_num, hown11.out, hB10.out⟩, by simp [intOf]; omega⟩
    · have t1 : ¬ (j : Int) < (n : Int) := by omega
      have htn : es.take j = es := List.take_of_length_le (by omega)
      have hfin : ∀ u, OwnB wr w.heap.size u ((magic ++ beB n 4) ++ bodyL (ops (es.take j))) → OwnB wr w.heap.size u (encL (ops es)) := by
        intro u h2
        rw [htn] at h2
        unfold encL
        rw [← List.append_assoc, show (ops es).length = n by simp [ops, hel]]
        exact h2
      clear htn
      replace hfin := hide hfin
      go_wp2_with fail
      go_ret
      exact ⟨_, rfl, hfin.out _ hu.out, hbr.out⟩
end Snap
end Go.Proofs.Ytniieckjooahfaa
