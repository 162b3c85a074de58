/- snap.put and law 44's four, by contract: an op's bytes, put behind a row of bytes. Conditions: an op that may be kept, a row of the call's own, sizes below 2^37. -/
import Derived.Test.YtniieckjooahfaaSnapSmall
import Derived.Test.YtniieckjooahfaaAppend
import Derived.Test.YtniieckjooahfaaAllLit
namespace Go.Proofs.Ytniieckjooahfaa
open Go.RowKit Go.ChangeShapes Go.WideShapes Go.ChangeAt Go.Deep
theorem u8m {z : Int} {x : Nat} (h : z = (x : Int) % 256) : Value.int .u8 z = u8v (UInt8.ofNat x) := by rw [h, u8v_mod]
theorem list4 {α : Type} {a0 a1 a2 a3 b0 b1 b2 b3 : α} (h0 : a0 = b0) (h1 : a1 = b1) (h2 : a2 = b2) (h3 : a3 = b3) : [a0, a1, a2, a3] = [b0, b1, b2, b3] := by
  subst h0 h1 h2 h3; rfl
theorem list2 {α : Type} {a0 a1 b0 b1 : α} (h0 : a0 = b0) (h1 : a1 = b1) : [a0, a1] = [b0, b1] := by subst h0 h1; rfl
theorem beB4 (N : Nat) : beB N 4 = [UInt8.ofNat (N / 16777216), UInt8.ofNat (N / 65536), UInt8.ofNat (N / 256), UInt8.ofNat N] := by simp [beB]
namespace Snap
set_option maxHeartbeats 1000000 in
theorem four_any (base : Nat) (v : Value) (xs : List UInt8) (N : Nat) (w : World) (hown : OwnB w base v xs) (hbase : base ≤ w.heap.size) (hN : N < 4294967296) (hl : xs.length ≤ 549755813888) :
    Calls Try.prog 90 #[v, .int .i64 (N : Int)] w fun e w' => ∃ v', e = .returned v' ∧ OwnB w' base v' (xs ++ beB N 4) ∧ Grew w v w' v' := by
  replace hown := hide hown
  go_enter Try.func90, Try.ntmps90
  go_wp2_with (at_builtin; refine wpl_lit_bv rfl (.tmp 5) (.tmp 17) rfl base v xs (beB N 4) 4 4 rfl rfl ?_ (beB_length _ _) hown.out hbase (by omega) ?_)
  · rw [beB4]
    exact list4 (u8m (by omega)) (u8m (by omega)) (u8m (by omega)) (u8m (by omega))
  intro v' w' h1 h2
  replace h1 := hide h1
  replace h2 := hide h2
  go_wp2_with fail
  go_ret
  exact ⟨v', rfl, h1.out, h2.out⟩
def upB (b : Bool) : UInt8 := if b then 1 else 0
set_option maxRecDepth 20000 in
set_option maxHeartbeats 8000000 in
theorem put_op (base : Nat) (v : Value) (xs : List UInt8) (e : OpD) (w : World) (hown : OwnB w base v xs) (hbase : base ≤ w.heap.size) (hok : okOp e.o) (hd : IsB w base e.A e.o.xs.length e.o.xs) (hl : xs.length ≤ 137438953472) :
    Calls Try.prog 82 #[v, e.v] w fun x w' => ∃ v', x = .returned v' ∧ OwnB w' base v' (xs ++ encP e.o) ∧ Below base w w' := by
  obtain ⟨⟨k, ys, s, h, n, up⟩, A, c⟩ := e
  obtain ⟨h1, h2, h3, h4, h5, h6, h7, h8⟩ := hok
  unfold OpD.v
  simp only at h1 h2 h3 h4 h5 h6 h7 h8 hd ⊢
  obtain ⟨k, rfl⟩ : ∃ j : Nat, k = (j : Int) := ⟨k.toNat, by omega⟩
  obtain ⟨h, rfl⟩ : ∃ j : Nat, h = (j : Int) := ⟨h.toNat, by omega⟩
  obtain ⟨n, rfl⟩ : ∃ j : Nat, n = (j : Int) := ⟨n.toNat, by omega⟩
  have hss := str_size s
  obtain ⟨sb, hsb⟩ : ∃ sb, str s = sb := ⟨_, rfl⟩
  rw [hsb] at hss ⊢
  have hb1 : Below w.heap.size w (w.alloc (.cells #[.int .i64 (k : Int), .slice A ys.length c, .string sb, .int .i64 (h : Int), .int .i64 (n : Int), .bool up] 77)) := (Below.refl _ _).alloc (Nat.le_refl _) _
  have hbox := blk_new w 77 #[.int .i64 (k : Int), .slice A ys.length c, .string sb, .int .i64 (h : Int), .int .i64 (n : Int), .bool up]
  have hown1 := hown.alloc (.cells #[.int .i64 (k : Int), .slice A ys.length c, .string sb, .int .i64 (h : Int), .int .i64 (n : Int), .bool up] 77)
  have hv1 := hown.off (Nat.le_refl _)
  obtain ⟨w1, hw1⟩ : ∃ w1, w.alloc (.cells #[.int .i64 (k : Int), .slice A ys.length c, .string sb, .int .i64 (h : Int), .int .i64 (n : Int), .bool up] 77) = w1 := ⟨_, rfl⟩
  have hz1 : w.heap.size < w1.heap.size := by rw [← hw1]; simp
  rw [hw1] at hb1 hbox hown1
  have hcg := blk_cell hbox
  have hB1 := hb1.mono hbase
  have hd1 := hd.below hB1
  obtain ⟨u, hu⟩ : ∃ u, upB up = u := ⟨_, rfl⟩
  replace hb1 := hide hb1
  replace hbox := hide hbox
  replace hown1 := hide hown1
  replace hd1 := hide hd1
  replace hd := hide hd
  replace hown := hide hown
  replace hsb := hide hsb
  replace hu := hide hu
  replace hv1 := hide hv1
  replace hB1 := hide hB1
  go_enter Try.func82, Try.ntmps82
  go_upto_if 7 with fail
  go_cut [5] (fun uv wx => uv = .int .u8 (u.toNat : Int) ∧ w1 = wx)
  case first =>
    rcases up with _ | _
    · obtain rfl := hu.out
      go_wp2_with fail
      go_meet
      exact ⟨rfl, rfl⟩
    · obtain rfl := hu.out
      go_wp2_with fail
      go_meet
      exact ⟨rfl, rfl⟩
  case rest =>
  obtain ⟨rfl, rfl⟩ := hcut
  clear hw1
  go_wp2_with (at_builtin; refine wpl_lit_bv rfl (.tmp 8) (.tmp 13) rfl base v xs [UInt8.ofNat k, u] 2 2 rfl rfl ?_ rfl ?_ ?_ ?_ ?_)
  · exact list2 (u8m (by omega)) rfl
  · exact hown1.out
  · omega
  · omega
  intro v2 w2 hown2 hg2
  have hB2 := hB1.out.trans (hg2.below hown1.out (by omega))
  have z2 := hg2.grown.size
  obtain ⟨hbox2, hv2⟩ := hg2.box hbox.out hv1.out
  clear hcg
  have hcg := blk_cell hbox2
  replace hown2 := hide hown2
  replace hg2 := hide hg2
  replace hB2 := hide hB2
  replace hbox2 := hide hbox2
  replace hv2 := hide hv2
  go_wp2_with fail
  refine (all_lit base _ _ 4 _ rfl [h, n, ys.length] _ rfl 3 _ rfl _ _ _ rfl hown2.out (by omega) (by omega) (by rw [List.length_append]; simp; omega) (by omega) ?_).mono ?_
  · intro N hN
    simp only [List.mem_cons, List.not_mem_nil, or_false] at hN
    omega
  rintro e w3 ⟨v3, rfl, hown3, hg3⟩
  have hB3 := hB2.out.trans (hg3.below hown2.out (by omega))
  have z3 := hg3.grown.size
  obtain ⟨hbox3, hv3⟩ := hg3.box hbox2.out hv2.out
  have hd3 := hd.out.below hB3
  clear hcg hg2 hg3 hown2 hB2 hbox2 hv2 hd1 hB1 hown1 hv1 hbox
  have hcg := blk_cell hbox3
  replace hown3 := hide hown3
  replace hB3 := hide hB3
  replace hbox3 := hide hbox3
  replace hv3 := hide hv3
  replace hd3 := hide hd3
  go_wp2_with (at_builtin; refine wpl_src_bv rfl (.tmp 28) (.tmp 30) rfl base v3 _ ys A ys.length c base rfl rfl hown3.out hd3.out (by omega) ?_ ?_)
  · simp [allB_length]; omega
  intro v4 w4 hown4 hg4
  have hB4 := hB3.out.trans (hg4.below hown3.out (by omega))
  have z4 := hg4.grown.size
  obtain ⟨hbox4, hv4⟩ := hg4.box hbox3.out hv3.out
  clear hcg hg4 hown3 hB3 hbox3 hv3 hd3
  replace hown4 := hide hown4
  replace hB4 := hide hB4
  replace hbox4 := hide hbox4
  replace hv4 := hide hv4
  go_upto_region 7 with fail
  refine wp_region_S w4.heap.size (fun k => v4.ownBlock = some k) (by as_aux_lemma => kernel_rfl) ?_
  intro wd hbd
  have zd := hbd.size
  have hboxd := blk_below hbd (show w.heap.size < w4.heap.size by omega) hbox4.out
  have hownd := hown4.out.below hbd
  have hBd := hB4.out.trans (hbd.mono (by omega))
  have hcl := fun (l : KeptSW w4.heap.size (fun k => v4.ownBlock = some k) wd) (o : Nat) => blk_cell (l.blk hboxd (by omega) hv4.out) o
  replace hboxd := hide hboxd
  replace hownd := hide hownd
  replace hBd := hide hBd
  replace hbd := hide hbd
  refine wpS_seg w4.heap.size (fun k => v4.ownBlock = some k) 0 5 (fuel := 6) (by as_aux_lemma => kernel_rfl) (fun d _ _ _ _ h => by cases d <;> exact h) (by as_aux_lemma => kernel_rfl) (by as_aux_lemma => kernel_rfl) ?_
  simp only [List.drop_zero, List.take_succ_cons, List.take_zero]
  iterate 5 (refine wpQS_step (fun K hK => ?_); go_simp; refine hK _ ?_; clear hK K)
  refine wpQF_nil ?_
  refine wpS_seg w4.heap.size (fun k => v4.ownBlock = some k) 7 2 (fuel := 4) (by as_aux_lemma => kernel_rfl) (fun d _ _ _ _ h => by cases d <;> exact h) (by as_aux_lemma => kernel_rfl) (by as_aux_lemma => kernel_rfl) ?_
  simp only [List.drop_succ_cons, List.drop_zero, List.take_succ_cons, List.take_zero]
  iterate 2 (refine wpQS_step (fun K hK => ?_); go_simp; refine hK _ ?_; clear hK K)
  refine wpQF_nil ?_
  have r1 : IntKind.u8.wrap (s.length : Int) = (s.length : Int) := wraps_u8 _ (by omega) (by omega)
  rw [r1]
  clear r1 hcl
  refine wpF_step 5 rfl (by as_aux_lemma => kernel_rfl) (fun K hK => ?_)
  go_simp
  have hlit := OwnB.litv wd wd.heap.size [.int .u8 (s.length : Int)] [UInt8.ofNat s.length] 1 (by simp only [List.map_cons, List.map_nil]; rw [u8v_nat _ (by omega)]) rfl (Nat.le_refl _) (by omega)
  have hb5 : Below wd.heap.size wd (wd.alloc (.cells [Value.int .u8 (s.length : Int)].toArray 5)) := (Below.refl _ _).alloc (Nat.le_refl _) _
  refine hK _ _ (keptS_of_below hb5 zd) ?_
  clear hK K
  obtain ⟨w5, hw5⟩ : ∃ w5, wd.alloc (.cells [Value.int .u8 (s.length : Int)].toArray 5) = w5 := ⟨_, rfl⟩
  rw [hw5] at hlit hb5
  rw [hw5]
  clear hw5
  have hlit5 := hlit.reads.2.2.2
  have z5 := hb5.size
  have hown5 := hownd.out.below hb5
  have hB5 := hBd.out.trans (hb5.mono (by omega))
  refine wpF_step 6 rfl (by as_aux_lemma => kernel_rfl) (fun K hK => ?_)
  rw [if_pos (by rfl)]
  refine wp_app_b (.tmp 32) (.tmp 37) rfl base v4 _ [UInt8.ofNat s.length] _ 1 _ _ rfl rfl hown5 hlit5 (by omega) (by simp [allB_length]; omega) fun v6 w6 hown6 hg6 => hK _ _ (keptS_row hg6.grown (by omega) (.inl rfl)) ?_
  clear hK K
  have z6 := hg6.grown.size
  have hB6 := hB5.trans (hg6.below hown5 (by omega))
  have hm6 := hg6.moved.from (S := w4.heap.size) (by omega)
  refine wpF_step 9 rfl (by as_aux_lemma => kernel_rfl) (fun K hK => ?_)
  rw [if_pos (by rfl)]
  refine wp_app_s (.tmp 38) (.tmp 40) rfl base v6 _ s rfl (congrArg Value.string hsb.out.symm) hown6 (by omega) (by simp [allB_length]; omega) fun v7 w7 hown7 hg7 => hK _ _ (keptS_row hg7 (by omega) hm6) ?_
  clear hK K
  have hB7 := hB6.trans (hown6.belowRow hg7 (by omega))
  refine wpF_step 10 rfl (by as_aux_lemma => kernel_rfl) (fun K hK => ?_)
  go_simp
  refine hK _ _ (keptS_refl _ _ _) ?_
  clear hK K
  refine wpF_done (by as_aux_lemma => kernel_rfl) ?_ 0
  have hfin : (xs ++ UInt8.ofNat k :: u :: (allB 4 [h, n, ys.length] ++ ys)) ++ [UInt8.ofNat s.length] ++ s = xs ++ encP ⟨(k : Int), ys, s, (h : Int), (n : Int), up⟩ := by
    unfold encP
    rw [← hu.out]
    simp [allB, upB]
  rw [hfin] at hown7
  clear hown6 hown5 hg6 hg7 hB6 hB5 hlit hlit5 hb5
  replace hown7 := hide hown7
  replace hB7 := hide hB7
  go_wp2_with fail
  go_ret
  exact ⟨v7, rfl, hown7.out, hB7.out⟩
end Snap
end Go.Proofs.Ytniieckjooahfaa
