/- snap: none, Act: a diary of a balancer without flows. Condition: such a diary in memory. -/
import Derived.Test.YtdneeablghlemaaGreatDoorQSnapNobody5
import Derived.Test.YtdneeablghlemaaGreatDoorQSnapNobody4
import Derived.Test.YtdneeablghlemaaGreatDoorQSnapNobody2
namespace Go.Proofs.YtdneeablghlemaaGreatDoor
open Go.RowKit Go.ChangeShapes Go.WideShapes Go.ChangeAt Go.Deep
theorem wp_st3 {P : Program} {op : Oper} {a : Act} {w : World} {K : Act → World → Prop} {Q : Exit → Act → World → Prop} (ty : TypeId) (x y : Operand) (ho : op.op = .store ty x y) (g o : Nat) (hx : a.eval x = .pointer (some ⟨g, o, none⟩)) (vs : Array Value) (hy : a.eval y = .agg vs)
    {cs : Array Value} {t : TypeId} (hc : w.heap[g]? = some (.cells cs t (0, 0))) (hn : o + vs.size ≤ cs.size) (hi : (P.info? ty).map (·.size) = some vs.size) (h1 : vs.all (·.oneCell') = true)
    (h : ∀ w', w'.heap[g]? = some (.cells (putA cs o vs.toList) t (0, 0)) → w.grownBy w' (some g) → K (a.put op.dst undef) w') : op.wp P a w K Q := by
  obtain ⟨w', e, h2, h3⟩ := stored_at (o := o) hc vs.toList (by simpa using hn)
  refine wp_store_mid ty x y ho g o vs hx hy (blk_there hc hn) hi h1 ?_
  rw [e]
  exact h w' h2 h3
namespace Mach33
open Snap (info_op right_any OpD okOp)
abbrev diA (m : Nat) (s : Su) (lv : Value) : Array Value := #[.pointer (some ⟨m, 0, none⟩), .int .i64 s.m, .int .u64 (s.seed : Int), .int .i64 s.h.e, .int .i64 s.h.t, .int .i64 s.h.r, .int .i64 s.h.f, .int .i64 s.r.a, .int .i64 s.r.b, .int .i64 s.r.c, .int .i64 s.r.d, lv]
/-- A diary in memory, with so many ops. -/
structure DiC (w : World) (base d : Nat) (lv : Value) (L : Nat) : Prop where
  blk : ∃ m s, w.heap[d]? = some (.cells (diA m s lv) 33 (0, 0)) ∧ MaE w m
  row : ∃ xs, w.ownsRow base 42 6 lv L xs
  hb : base ≤ d
theorem DiC.on {w w' : World} {base d L : Nat} {lv : Value} (h : DiC w base d lv L) (hb : Below w.heap.size w w') : DiC w' base d lv L := by
  obtain ⟨⟨m, s, h1, h2⟩, ⟨xs, h3⟩, h4⟩ := h
  exact ⟨⟨m, s, blk_on hb h1, h2.on hb⟩, ⟨xs, row_on h3 hb⟩, h4⟩
theorem DiC.lt {w : World} {base d L : Nat} {lv : Value} (h : DiC w base d lv L) : d < w.heap.size := by
  obtain ⟨m, s, h1, h2⟩ := h.blk
  exact lt_of_blk h1
/-- Blocks that are not a balancer's. -/
def Off (w : World) (P : Nat → Prop) : Prop := ∀ k cs T, w.heap[k]? = some (.cells cs T (0, 0)) → (T = 95 ∨ T = 72 ∨ T = 155) → ¬ P k
theorem MaE.kept {w w' : World} {m : Nat} {P : Nat → Prop} (h : MaE w m) (hk : KeptS w.heap.size P w w') (ho : Off w P) : MaE w' m := by
  obtain ⟨a, b, c, p, d, e, s, h1, f, r, h2, s', m', l, h3, h4⟩ := h
  exact ⟨a, b, c, p, d, e, s, (hk.block m (lt_of_blk h1) (ho m _ _ h1 (.inl rfl))).trans h1, f, r, (hk.block p (lt_of_blk h2) (ho p _ _ h2 (.inr (.inl rfl)))).trans h2, s', m', l, h3, (hk.block f (lt_of_blk h4) (ho f _ _ h4 (.inr (.inr rfl)))).trans h4⟩
theorem kS_mono {S S' : Nat} {P P' : Nat → Prop} {a b : World} (h : KeptS S P a b) (hS : S' ≤ S) (hP : ∀ k, k < S' → P k → P' k) : KeptS S' P' a b := ⟨h.os, h.tape, h.output, h.size, fun k hk hn => h.block k (by omega) (fun e => hn (hP k hk e))⟩
theorem off_di {w : World} {base d L : Nat} {lv : Value} {xs : List Value} {m : Nat} {s : Su} (h1 : w.heap[d]? = some (.cells (diA m s lv) 33 (0, 0))) (h2 : w.ownsRow base 42 6 lv L xs) : Off w (fun k => k = d ∨ lv.ownBlock = some k) := by
  intro k cs T hk hT hP
  rcases hP with rfl | hP
  · rw [h1] at hk
    injection hk with hk
    injection hk with _ hk _
    subst hk
    revert hT
    decide
  · have hne : T ≠ 42 := by
      rcases hT with rfl | rfl | rfl <;> decide
    rcases row_not_x h2 hk hne with e | e
    · rw [e] at hP; cases hP
    · exact e hP
theorem dnone_e {w : World} {d : Nat} {v : Value} {b : Bool} (h : w.cell? ⟨d, 0, none⟩ = some v) (hv : v = .pointer none ∧ b = true ∨ (∃ m, v = .pointer (some ⟨m, 0, none⟩)) ∧ b = false) : Calls Tryz.prog 17 #[.pointer (some ⟨d, 0, none⟩)] w fun e w' => e = .returned (.bool b) ∧ w' = w := by
  rcases hv with ⟨rfl, rfl⟩ | ⟨⟨m, rfl⟩, rfl⟩
  all_goals
    go_enter Tryz.func17, Tryz.ntmps17
    go_wp2_with fail
    go_ret
    exact ⟨rfl, rfl⟩
theorem dnone_n (w : World) : Calls Tryz.prog 17 #[.pointer none] w fun e w' => e = .returned (.bool true) ∧ w' = w := by
  go_enter Tryz.func17, Tryz.ntmps17
  go_wp2_with fail
  go_ret
  exact ⟨rfl, rfl⟩
theorem app_op (ty : TypeId) (w : World) : (Builtin.append_ #[40, 40] ty #[.slice none 0 0, .slice none 0 0]).run Tryz.prog w = .ok (.slice none 0 0) w := by kernel_rfl
theorem right7 (w : World) : Calls Tryz.prog 18 #[.agg opA] w fun x w' => x = .returned (.bool true) ∧ Below w.heap.size w w' := by
  have h := right_any ⟨⟨7, [], [], 0, 0, false⟩, none, 0⟩ w (by decide) (by decide)
  rw [decide_eq_true (show okOp ⟨7, [], [], 0, 0, false⟩ by unfold okOp; decide)] at h
  exact h
/-- What an op that is kept leaves. -/
def ActTo (w w' : World) (base d : Nat) (lv : Value) (L : Nat) : Prop := ∃ lv', DiC w' base d lv' L ∧ (lv'.ownBlock = lv.ownBlock ∨ ∃ k, lv'.ownBlock = some k ∧ w.heap.size ≤ k) ∧ KeptS w.heap.size (fun k => k = d ∨ lv.ownBlock = some k) w w'
/-- An op that nobody keeps. -/
theorem act_none (cs : Array Value) (hcs : cs = #[.int .i64 0, .slice none 0 0, .string ⟨#[]⟩, .int .i64 0, .int .i64 0, .bool false]) (dv : Value) (w : World) (q : ∀ w', Below w.heap.size w w' → Calls Tryz.prog 17 #[dv] w' fun e w'' => e = .returned (.bool true) ∧ w'' = w') : Calls Tryz.prog 5 #[dv, .agg cs] w fun e w' => e = .returned (.tuple #[.agg tdA, .int .i64 9]) ∧ Below w.heap.size w w' := by
  subst hcs
  obtain ⟨w1, hw1⟩ : ∃ w1, w.alloc (.cells #[.int .i64 0, .slice none 0 0, .string ⟨#[]⟩, .int .i64 0, .int .i64 0, .bool false] 42) = w1 := ⟨_, rfl⟩
  have hb1 : Below w.heap.size w w1 := hw1 ▸ (Below.refl _ _).alloc (Nat.le_refl _) _
  obtain ⟨w2, hw2⟩ : ∃ w2, w1.alloc (.cells tdA 37) = w2 := ⟨_, rfl⟩
  have hb2 : Below w1.heap.size w1 w2 := hw2 ▸ (Below.refl _ _).alloc (Nat.le_refl _) _
  have hg2 : w2.heap[w1.heap.size]? = some (.cells tdA 37 (0, 0)) := hw2 ▸ blk_new _ _ _
  have hz1 : w1.heap.size = w.heap.size + 1 := by rw [← hw1]; simp
  have hB2 := hb1.trans (hb2.mono hb1.size)
  have q2 := q w2 hB2
  obtain ⟨z, hz⟩ : ∃ z, w.heap.size = z := ⟨_, rfl⟩
  rw [hz] at hB2 hz1
  rw [hz1] at hg2
  rw [hz]
  clear q hb1 hb2
  replace q2 := hide q2
  replace hg2 := hide hg2
  replace hB2 := hide hB2
  go_enter Tryz.func5, Tryz.ntmps5
  go_wp2_with fail
  refine (q2.out).mono ?_
  rintro e w3 ⟨rfl, rfl⟩
  clear q2 hw1 hw2
  go_upto_region 2 with fail
  apply wp_region_lit
  iterate 1 (refine wpList_plain rfl fun K hK => ?_; go_simp; refine hK _ _ ?_; clear hK K)
  refine wpl_st rfl 37 (.tmp 4) (.tmp 9) rfl (z + 1) 0 rfl (tdA) rfl hg2.out (by simp) (by kernel_rfl) (td_one) fun w9 hg9 g9 => ?_
  rw [putA_whole _ _ (by rfl)] at hg9
  have hb9 : Below (z) w w9 := (hB2.out).trans (below_grown g9 (by have := (hB2.out).size; omega) (by omega))
  have hld : (loadVar 37 ⟨z + 1, 0, none⟩).run Tryz.prog w9 = .ok (.agg (tdA)) w9 := by
    simpa using run_loadVar_mid w9 (z + 1) 0 37 (tdA).toList _ (blk_range hg9) Tryz.underlying37 rfl (by kernel_rfl)
  clear hg9 g9
  replace hld := hide hld
  replace hb9 := hide hb9
  iterate 1 (refine wpList_plain rfl fun K hK => ?_; go_simp; refine hK _ _ ?_; clear hK K)
  refine wpList_nil ?_
  go_simp
  go_wp2_with fail
  exact bodyPost_ret (v := .tuple #[.agg tdA, .int .i64 9]) (by simp [results, Tryz.results5, asAddr, hld.out, Result.andThen]) rfl ⟨rfl, hb9.out⟩
set_option maxRecDepth 20000 in
set_option maxHeartbeats 8000000 in
theorem act_full {base d : Nat} {lv : Value} (w : World) (h : DiC w base d lv 2048) : Calls Tryz.prog 5 #[.pointer (some ⟨d, 0, none⟩), .agg opA] w fun e w' => e = .returned (.tuple #[.agg tdA, .int .i64 6]) ∧ Below w.heap.size w w' := by
  obtain ⟨w1, hw1⟩ : ∃ w1, w.alloc (.cells opA 42) = w1 := ⟨_, rfl⟩
  have hb1 : Below w.heap.size w w1 := hw1 ▸ (Below.refl _ _).alloc (Nat.le_refl _) _
  have hg1 : w1.heap[w.heap.size]? = some (.cells opA 42 (0, 0)) := hw1 ▸ blk_new _ _ _
  obtain ⟨w2, hw2⟩ : ∃ w2, w1.alloc (.cells tdA 37) = w2 := ⟨_, rfl⟩
  have hb2 : Below w1.heap.size w1 w2 := hw2 ▸ (Below.refl _ _).alloc (Nat.le_refl _) _
  have hg2 : w2.heap[w1.heap.size]? = some (.cells tdA 37 (0, 0)) := hw2 ▸ blk_new _ _ _
  have cc := blk_cell (blk_on hb2 hg1)
  have hz1 : w1.heap.size = w.heap.size + 1 := by rw [← hw1]; simp
  have hB2 := hb1.trans (hb2.mono hb1.size)
  obtain ⟨⟨m, s, hd, hM⟩, ⟨xs, hr⟩, hbd⟩ := h.on hB2
  obtain ⟨A, cap, hlv, hc1, hc2, -⟩ := own_isv hr
  subst hlv
  have qn := dnone_e (blk_cell hd 0) (.inr ⟨⟨m, rfl⟩, rfl⟩)
  have qr := right7 w2
  have hdl := lt_of_blk hd
  obtain ⟨z, hz⟩ : ∃ z, w.heap.size = z := ⟨_, rfl⟩
  rw [hz] at hB2 hz1 cc
  rw [hz1] at hg2
  rw [hz]
  clear h hM hr hb1 hg1 hb2
  replace qn := hide qn
  replace qr := hide qr
  replace hg2 := hide hg2
  replace hB2 := hide hB2
  replace hd := hide hd
  go_enter Tryz.func5, Tryz.ntmps5
  go_wp2_with fail
  refine (qn.out).mono ?_
  rintro e w3 ⟨rfl, rfl⟩
  clear qn hw1 hw2
  go_wp2_with fail
  refine (qr.out).mono ?_
  rintro e w4 ⟨rfl, hb4⟩
  have hg4 := blk_on hb4 hg2.out
  have hB4 := hB2.out.trans (hb4.mono (by have := hB2.out.size; omega))
  have c11 := blk_cell (blk_on hb4 hd.out) 11
  clear cc qr hg2 hB2 hb4 hd
  replace hg4 := hide hg4
  replace hB4 := hide hB4
  go_upto_region 6 with fail
  clear c11
  apply wp_region_lit
  iterate 1 (refine wpList_plain rfl fun K hK => ?_; go_simp; refine hK _ _ ?_; clear hK K)
  refine wpl_st rfl 37 (.tmp 4) (.tmp 22) rfl (z + 1) 0 rfl (tdA) rfl hg4.out (by simp) (by kernel_rfl) (td_one) fun w9 hg9 g9 => ?_
  rw [putA_whole _ _ (by rfl)] at hg9
  have hb9 : Below (z) w w9 := (hB4.out).trans (below_grown g9 (by have := (hB4.out).size; omega) (by omega))
  have hld : (loadVar 37 ⟨z + 1, 0, none⟩).run Tryz.prog w9 = .ok (.agg (tdA)) w9 := by
    simpa using run_loadVar_mid w9 (z + 1) 0 37 (tdA).toList _ (blk_range hg9) Tryz.underlying37 rfl (by kernel_rfl)
  clear hg9 g9
  replace hld := hide hld
  replace hb9 := hide hb9
  iterate 1 (refine wpList_plain rfl fun K hK => ?_; go_simp; refine hK _ _ ?_; clear hK K)
  refine wpList_nil ?_
  go_simp
  go_wp2_with fail
  exact bodyPost_ret (v := .tuple #[.agg tdA, .int .i64 6]) (by simp [results, Tryz.results5, asAddr, hld.out, Result.andThen]) rfl ⟨rfl, hb9.out⟩
set_option maxRecDepth 20000 in
set_option maxHeartbeats 16000000 in
theorem act_e {base d L : Nat} {lv : Value} (w : World) (h : DiC w base d lv L) (hL : L < 2048) : Calls Tryz.prog 5 #[.pointer (some ⟨d, 0, none⟩), .agg opA] w fun e w' => e = .returned (.tuple #[.agg tdA, .int .i64 0]) ∧ ActTo w w' base d lv (L + 1) := by
  have hap := app_op
  obtain ⟨w1, hw1⟩ : ∃ w1, w.alloc (.cells opA 42) = w1 := ⟨_, rfl⟩
  have hb1 : Below w.heap.size w w1 := hw1 ▸ (Below.refl _ _).alloc (Nat.le_refl _) _
  have hg1 : w1.heap[w.heap.size]? = some (.cells opA 42 (0, 0)) := hw1 ▸ blk_new _ _ _
  obtain ⟨w2, hw2⟩ : ∃ w2, w1.alloc (.cells tdA 37) = w2 := ⟨_, rfl⟩
  have hb2 : Below w1.heap.size w1 w2 := hw2 ▸ (Below.refl _ _).alloc (Nat.le_refl _) _
  have hg2 : w2.heap[w1.heap.size]? = some (.cells tdA 37 (0, 0)) := hw2 ▸ blk_new _ _ _
  have ho2 := blk_on hb2 hg1
  have cc := blk_cell ho2
  have hz1 : w1.heap.size = w.heap.size + 1 := by rw [← hw1]; simp
  have hB2 := hb1.trans (hb2.mono hb1.size)
  have hdw := h.lt
  obtain ⟨⟨m, s, hd, hM⟩, ⟨xs, hr⟩, hbd⟩ := h.on hB2
  obtain ⟨A, cap, hlv, hc1, hc2, -⟩ := own_isv hr
  subst hlv
  have hne : ∀ k, (Value.slice A L cap).ownBlock = some k → k < w.heap.size ∧ k ≠ d := by
    intro k hk
    obtain ⟨xs0, hr0⟩ := h.row
    refine ⟨(World.ownsRow.lt hr0 _ hk).2, ?_⟩
    rintro rfl
    rcases row_not_x hr hd (by decide) with e | e
    · rw [e] at hk; cases hk
    · exact e hk
  have qn := dnone_e (blk_cell hd 0) (.inr ⟨⟨m, rfl⟩, rfl⟩)
  have qr := right7 w2
  have hdl := lt_of_blk hd
  have t1 : ¬ (2048 : Int) ≤ (L : Int) := by omega
  obtain ⟨z, hz⟩ : ∃ z, w.heap.size = z := ⟨_, rfl⟩
  rw [hz] at hB2 hz1 ho2 hne hdw cc
  rw [hz1] at hg2
  clear h hb1 hg1 hb2
  replace qn := hide qn
  replace qr := hide qr
  replace hg2 := hide hg2
  replace hB2 := hide hB2
  replace hd := hide hd
  replace ho2 := hide ho2
  replace hM := hide hM
  replace hr := hide hr
  replace hne := hide hne
  go_enter Tryz.func5, Tryz.ntmps5
  go_wp2_with fail
  refine (qn.out).mono ?_
  rintro e w3 ⟨rfl, rfl⟩
  clear qn hw1 hw2
  go_wp2_with fail
  refine (qr.out).mono ?_
  rintro e w4 ⟨rfl, hb4⟩
  have hg4 := blk_on hb4 hg2.out
  have ho4 := blk_on hb4 ho2.out
  have hd4 := blk_on hb4 hd.out
  have hM4 := hM.out.on hb4
  have hr4 := row_on hr.out hb4
  have hB4 := hB2.out.trans (hb4.mono (by have := hB2.out.size; omega))
  have c11 := blk_cell hd4 11
  have c1 := blk_cell ho4 1
  have f1 := blk_free ho4 1
  have hb5 := set_same (i := 1) (v := .slice none 0 0) ho4 rfl
  obtain ⟨w5, hw5⟩ : ∃ w5, w4.setCell ⟨z, 1, none⟩ (.slice none 0 0) = w5 := ⟨_, rfl⟩
  rw [hw5] at hb5
  have hg5 := blk_on hb5 hg4
  have ho5 := blk_on hb5 ho4
  have hd5 := blk_on hb5 hd4
  have hM5 := hM4.on hb5
  have hr5 := row_on hr4 hb5
  have hB5 := hB4.trans (hb5.mono (by have := hB4.size; omega))
  clear cc qr hg2 hB2 hb4 hd ho2 hM hr hg4 ho4 hd4 hM4 hr4 hB4 hb5
  replace hg5 := hide hg5
  replace ho5 := hide ho5
  replace hd5 := hide hd5
  replace hM5 := hide hM5
  replace hr5 := hide hr5
  replace hB5 := hide hB5
  go_upto_region 8 with fail
  clear c11 c1 f1 hw5
  refine wp_region_Y [10] (KeptS w5.heap.size (fun k => (Value.slice A L cap).ownBlock = some k)) (by as_aux_lemma => kernel_rfl) ?_
  intro w6 hbd6
  have hg6 := blk_on hbd6 hg5.out
  have ho6 := blk_on hbd6 ho5.out
  have hd6 := blk_on hbd6 hd5.out
  have hM6 := hM5.out.on hbd6
  have hr6 := row_on hr5.out hbd6
  have hB6 := hB5.out.trans (hbd6.mono (by have := hB5.out.size; omega))
  have ze := hbd6.size
  have zb := hB5.out.size
  have lx := fun l : RelW (KeptS w5.heap.size (fun k => (Value.slice A L cap).ownBlock = some k)) w6 => (blk_cell ((l.hk.block d (by omega) (fun e => (hne.out _ e).2 rfl)).trans hd6) 11)
  have lz := fun l : RelW (KeptS w5.heap.size (fun k => (Value.slice A L cap).ownBlock = some k)) w6 => blk_cell ((l.hk.block z (lt_of_blk ho5.out) (fun e => by have := (hne.out _ e).1; omega)).trans ho6)
  clear hg5 ho5 hd5 hM5 hr5 hB5 hbd6
  replace hg6 := hide hg6
  replace ho6 := hide ho6
  replace hd6 := hide hd6
  replace hM6 := hide hM6
  replace hr6 := hide hr6
  replace hB6 := hide hB6
  refine wpY_seg [10] (KeptS w5.heap.size (fun k => (Value.slice A L cap).ownBlock = some k)) 0 6 (fuel := 5) (by as_aux_lemma => kernel_rfl) (fun d _ _ _ _ h => by cases d <;> exact h) (by as_aux_lemma => kernel_rfl) (by as_aux_lemma => kernel_rfl) (by as_aux_lemma => kernel_rfl) ?_
  simp only [List.drop_zero, List.take_succ_cons, List.take_zero]
  iterate 6 (refine wpQX_step (fun K hK => ?_); go_simp; refine hK _ ?_; clear hK K)
  refine wpQF_nil ?_
  clear lx lz
  refine wpW_step 6 rfl (by as_aux_lemma => kernel_rfl) (fun K hK => ?_)
  go_simp
  refine hK _ _ (relY_of (keptS_of_below ((Below.refl _ _).alloc (Nat.le_refl _) _) ze)) ?_
  clear hK K
  obtain ⟨wt, hwt⟩ : ∃ wt, w6.alloc (.cells opA 42) = wt := ⟨_, rfl⟩
  have hbt : Below w6.heap.size w6 wt := hwt ▸ (Below.refl _ _).alloc (Nat.le_refl _) _
  have hnt : wt.heap[w6.heap.size]? = some (.cells opA 42 (0, 0)) := hwt ▸ blk_new _ _ _
  change wpW _ _ _ _ _ _ _ _ (w6.alloc (.cells opA 42))
  rw [hwt]
  have hgt := blk_on hbt hg6.out
  have hot := blk_on hbt ho6.out
  have hdt := blk_on hbt hd6.out
  have hMt := hM6.out.on hbt
  have hrt := row_on hr6.out hbt
  have hBt := hB6.out.trans (hbt.mono (by have := hB6.out.size; omega))
  have zt := hbt.size
  have hbz : base ≤ wt.heap.size := by omega
  clear hwt hbt hg6 ho6 hd6 hM6 hr6 hB6
  refine wpW_step 7 rfl (by as_aux_lemma => kernel_rfl) (fun K hK => ?_)
  rw [if_pos (by unfold Region.wanted; rfl)]
  refine wp_app_c (T := 42) Tryz.underlying31 info_op rfl (by decide) (by decide) (.tmp 31) (.tmp 33) rfl base (.slice A L cap) L xs [.int .i64 7, .slice none 0 0, .string ⟨#[]⟩, .int .i64 0, .int .i64 0, .bool false] w6.heap.size rfl rfl hrt hnt rfl (by intro u hu; simp only [List.mem_cons, List.not_mem_nil, or_false] at hu; rcases hu with rfl | rfl | rfl | rfl | rfl | rfl <;> rfl) hbz (by omega) fun v11 w11 q1 q2 => hK _ _ (relY_of ⟨q2.grown.os, q2.grown.tape, q2.grown.output, q2.grown.size, fun k hk hne => q2.grown.block k (by omega) (fun e => hne e.symm)⟩) ?_
  clear hK K hnt
  obtain ⟨A11, c11, hv11, -, -, -⟩ := own_isv q1
  subst hv11
  have hz11 := q2.grown.size
  have hb11 := (q2.grown.block d (lt_of_blk hdt) (fun e => (hne.out _ e.symm).2 rfl)).trans hdt
  have hcc := (blk_cell hb11 11)
  have hff := blk_free hb11 11
  obtain ⟨w12, hw12⟩ : ∃ w12, w11.setCell ⟨d, 11, none⟩ (.slice A11 (L + 1) c11) = w12 := ⟨_, rfl⟩
  obtain ⟨w12', e12, hg12, g12⟩ := store_cell hb11 11 (.slice A11 (L + 1) c11)
  rw [hw12] at e12
  subst e12
  have hk : KeptS wt.heap.size (fun k => k = d ∨ (Value.slice A L cap).ownBlock = some k) wt w12 := ⟨g12.os.trans q2.grown.os, g12.tape.trans q2.grown.tape, g12.output.trans q2.grown.output, by have := g12.size; omega, fun k hk hnk => (g12.block k (by omega) (fun e => hnk (.inl (Option.some.inj e)))).trans (q2.grown.block k hk (fun e => hnk (.inr e.symm)))⟩
  have hM12 := hMt.kept hk (off_di hdt hrt)
  have hd12 : w12.heap[d]? = some (.cells (diA m s (.slice A11 (L + 1) c11)) 33 (0, 0)) := by simpa using hg12
  have hr12 := hw12 ▸ row_set q1 hb11 (by decide) 11 (.slice A11 (L + 1) c11)
  have hgg := (hk.block (z + 1) (lt_of_blk hgt) (fun e => by rcases e with e | e; omega; have := (hne.out _ e).1; omega)).trans hgt
  have hoo := (hk.block z (lt_of_blk hot) (fun e => by rcases e with e | e; omega; have := (hne.out _ e).1; omega)).trans hot
  have hB12 : KeptS z (fun k => k = d ∨ (Value.slice A L cap).ownBlock = some k) w w12 := keptS_trans z _ w wt w12 (keptS_of_below hBt (Nat.le_refl _)) (kS_mono hk (by have := hBt.size; omega) (fun k _ h => h))
  have hmv : (Value.slice A11 (L + 1) c11).ownBlock = (Value.slice A L cap).ownBlock ∨ ∃ k, (Value.slice A11 (L + 1) c11).ownBlock = some k ∧ z ≤ k := by
    rcases q2.moved with e | ⟨k, e, hk⟩
    · exact .inl e
    · exact .inr ⟨k, e, by have := hBt.size; omega⟩
  clear q1 q2 hgt hot hdt hMt hrt hBt hb11 hg12 g12 hk
  replace hM12 := hide hM12
  replace hd12 := hide hd12
  replace hr12 := hide hr12
  replace hgg := hide hgg
  replace hoo := hide hoo
  replace hB12 := hide hB12
  replace hmv := hide hmv
  refine wpW_step 8 rfl (by as_aux_lemma => kernel_rfl) (fun K hK => ?_)
  go_simp
  refine hK _ _ (relY_of (IsRel.refl _)) ?_
  clear hK K
  refine wpW_step 9 rfl (by as_aux_lemma => kernel_rfl) (fun K hK => ?_)
  go_simp
  refine hK _ _ (relY_of (IsRel.refl _)) ?_
  clear hK K
  refine wpW_step 10 rfl (by as_aux_lemma => kernel_rfl) (fun K hK => ?_)
  go_simp
  refine hK _ _ (relY_wr (by as_aux_lemma => kernel_rfl)) ?_
  clear hK K hcc hff hw12
  refine wpW_done (by as_aux_lemma => kernel_rfl) ?_ _
  go_upto_region 9 with fail
  refine wp_region_X (KeptS w12.heap.size (fun k => k = z + 1)) (by as_aux_lemma => kernel_rfl) ?_
  intro w13 hb13
  have hM13 := hM12.out.on hb13
  have hd13 := blk_on hb13 hd12.out
  have hr13 := row_on hr12.out hb13
  have hg13 := blk_on hb13 hgg.out
  have ho13 := blk_on hb13 hoo.out
  have hB13 := keptS_trans z _ w w12 w13 hB12.out (keptS_of_below hb13 (by have := hB12.out.size; omega))
  have z13 := hb13.size
  have ld := fun l : RelW (KeptS w12.heap.size (fun k => k = z + 1)) w13 => blk_cell ((l.hk.block d (lt_of_blk hd12.out) (by omega)).trans hd13) 0
  have lz := fun l : RelW (KeptS w12.heap.size (fun k => k = z + 1)) w13 => blk_cell ((l.hk.block z (lt_of_blk hoo.out) (by omega)).trans ho13)
  clear hM12 hd12 hr12 hgg hoo hB12 hb13
  have qd := do_e hM13
  have z12 := lt_of_blk hg13
  replace hM13 := hide hM13
  replace hd13 := hide hd13
  replace hr13 := hide hr13
  replace hg13 := hide hg13
  replace ho13 := hide ho13
  replace hB13 := hide hB13
  replace qd := hide qd
  refine wpX_seg (KeptS w12.heap.size (fun k => k = z + 1)) 0 5 (fuel := 3) (by as_aux_lemma => kernel_rfl) (fun d _ _ _ _ h => by cases d <;> exact h) (by as_aux_lemma => kernel_rfl) (by as_aux_lemma => kernel_rfl) ?_
  simp only [List.drop_zero, List.take_succ_cons, List.take_zero]
  iterate 5 (refine wpQX_step (fun K hK => ?_); go_simp; refine hK _ ?_; clear hK K)
  refine wpQF_nil ?_
  clear ld lz
  refine wpF_step 5 rfl (by as_aux_lemma => kernel_rfl) (fun K hK => ?_)
  go_simp
  refine (qd.out).mono ?_
  rintro e w14 ⟨rfl, hb14⟩
  have hM14 := hM13.out.on hb14
  have hd14 := blk_on hb14 hd13.out
  have hr14 := row_on hr13.out hb14
  have hg14 := blk_on hb14 hg13.out
  have hB14 := keptS_trans z _ w w13 w14 hB13.out (keptS_of_below hb14 (by have := hB13.out.size; omega))
  have z14 := hb14.size
  go_simp
  refine hK _ _ (keptS_of_below hb14 z13) ?_
  clear hK K qd hM13 hd13 hr13 hg13 ho13 hB13 hb14
  replace hM14 := hide hM14
  replace hd14 := hide hd14
  replace hr14 := hide hr14
  replace hB14 := hide hB14
  refine wpF_step 6 rfl (by as_aux_lemma => kernel_rfl) (fun K hK => ?_)
  rw [if_pos (by rfl)]
  refine wp_st3 37 (.tmp 4) (.tmp 42) rfl (z + 1) 0 rfl tdA rfl hg14 (by simp) (by kernel_rfl) td_one fun w15 hg15 g15 => ?_
  rw [putA_whole _ _ (by rfl)] at hg15
  have hkk : KeptS w14.heap.size (fun k => k = z + 1) w14 w15 := ⟨g15.os, g15.tape, g15.output, g15.size, fun k hk hn => g15.block k hk (fun e => hn (Option.some.inj e))⟩
  have hM15 := hM14.out.kept hkk (fun k cs T h1 h2 h3 => by
    subst h3
    rw [hg14] at h1
    injection h1 with h1
    injection h1 with _ h1 _
    subst h1
    revert h2
    decide)
  have hd15 := (hkk.block d (lt_of_blk hd14.out) (by omega)).trans hd14.out
  have hr15 := World.ownsRow.kept hr14.out g15 (by
    rcases row_not_x hr14.out hg14 (by decide) with e | e
    · exact .inl e
    · exact .inr e)
  have hB15 := keptS_trans z _ w w14 w15 hB14.out (kS_mono hkk (by have := hB14.out.size; omega) (fun k hk e => by omega))
  have hld : (loadVar 37 ⟨z + 1, 0, none⟩).run Tryz.prog w15 = .ok (.agg tdA) w15 := by
    simpa using run_loadVar_mid w15 (z + 1) 0 37 tdA.toList _ (blk_range hg15) Tryz.underlying37 rfl (by kernel_rfl)
  refine hK _ _ (kS_mono hkk (by omega) (fun _ _ h => h)) ?_
  clear hK K hg14 hg15 g15 hkk hM14 hd14 hr14 hB14
  have hfin : ActTo w w15 base d (.slice A L cap) (L + 1) := ⟨_, ⟨⟨m, s, hd15, hM15⟩, ⟨_, hr15⟩, hbd⟩, by rw [hz]; exact hmv.out, by rw [hz]; exact hB15⟩
  clear hM15 hd15 hr15 hB15
  replace hld := hide hld
  replace hfin := hide hfin
  refine wpF_step 7 rfl (by as_aux_lemma => kernel_rfl) (fun K hK => ?_)
  go_simp
  refine hK _ _ (IsRel.refl _) ?_
  clear hK K
  refine wpF_done (by as_aux_lemma => kernel_rfl) ?_ 0
  go_wp2_with fail
  exact bodyPost_ret (v := .tuple #[.agg tdA, .int .i64 0]) (by simp [results, Tryz.results5, asAddr, hld.out, Result.andThen]) rfl ⟨rfl, hfin.out⟩
end Mach33
end Go.Proofs.YtdneeablghlemaaGreatDoor
/- snap: New: a diary of a new balancer. No condition. -/
namespace Go.Proofs.YtdneeablghlemaaGreatDoor
open Go.RowKit Go.ChangeShapes Go.WideShapes Go.ChangeAt Go.Deep
namespace Mach33
theorem build_di {op : Oper} (m : Nat) (s : Su) (ev : Operand → Value) (x y : Operand) (ho : op.op = .build 33 #[(0, x), (1, y)]) (hx : ev x = .pointer (some ⟨m, 0, none⟩)) (hy : ev y = .agg (arrS s)) (w : World) : (execOp ev op).run Tryz.prog w = .ok (.value (.agg (diA m s (.slice none 0 0)))) w := by
  have h : (Instr.build 33 #[(0, ev x), (1, ev y)]).run Tryz.prog w = .ok (.agg (diA m s (.slice none 0 0))) w := by
    rw [hx, hy]
    obtain ⟨m, sd, ⟨e1, e2, e3, e4⟩, ⟨r1, r2, r3, r4⟩⟩ := s
    kernel_rfl
  have h3 : ∀ A, A = #[(0, ev x), (1, ev y)] → Sem.run Tryz.prog (do let v ← Instr.build 33 A; pure (Next.value v)) w = .ok (.value (.agg (diA m s (.slice none 0 0)))) w := by
    rintro _ rfl
    simp only [Sem.run_bind, Sem.run_pure, h, Result.andThen_ok]
  unfold execOp
  simp only [ho]
  exact h3 _ (by simp)
def DNew (s : Su) (w : World) (e : Ending) (w' : World) : Prop := ((okS s = true ∧ ∃ d, e = .returned (.tuple #[.pointer (some ⟨d, 0, none⟩), .int .i64 0]) ∧ DiC w' w.heap.size d (.slice none 0 0) 0) ∨ (okS s = false ∧ e = .returned (.tuple #[.pointer none, .int .i64 1]))) ∧ Below w.heap.size w w'
set_option maxRecDepth 20000 in
set_option maxHeartbeats 8000000 in
theorem dnew_all (s : Su) (w : World) : Calls Tryz.prog 7 #[.agg (arrS s)] w fun e w' => DNew s w e w' := by
  have qp := fun w => mnew_all s w
  obtain ⟨w1, hw1⟩ : ∃ w1, w.alloc (.cells (arrS s) 28) = w1 := ⟨_, rfl⟩
  have hb1 : Below w.heap.size w w1 := hw1 ▸ (Below.refl _ _).alloc (Nat.le_refl _) _
  have hg1 : w1.heap[w.heap.size]? = some (.cells (arrS s) 28 (0, 0)) := hw1 ▸ blk_new _ _ _
  obtain ⟨z, hz⟩ : ∃ z, w.heap.size = z := ⟨_, rfl⟩
  rw [hz] at hb1 hg1
  have hzl := (Array.getElem?_eq_some_iff.1 hg1).1
  have lr : w1.rangeAt z 0 (suL s) := blk_range (cs := arrS s) hg1
  replace qp := hide qp
  replace hb1 := hide hb1
  replace hg1 := hide hg1
  replace lr := hide lr
  go_enter Tryz.func7, Tryz.ntmps7
  go_upto_region 1 with fail
  clear hw1
  apply wp_region_lit
  refine wpList_load_mid rfl 28 (.tmp 1) rfl z 0 rfl (suL s) _ lr.out Tryz.underlying28 rfl size_su ?_
  refine wpList_plain rfl fun K hK => ?_
  go_simp
  refine ((qp.out w1)).mono ?_
  rintro e w2 ⟨hend, hb2⟩
  have hg2 := blk_on hb2 hg1.out
  have hB2 := hb1.out.trans (hb2.mono (by omega))
  have hz2 := hb2.size
  clear hb1 hg1 lr hb2 qp
  replace hB2 := hide hB2
  rcases hend with ⟨hok, m, rfl, hM, hm⟩ | ⟨hok, rfl⟩
  case inr =>
    have hfin : DNew s w (.returned (.tuple #[.pointer none, .int .i64 1])) w2 := ⟨.inr ⟨hok, rfl⟩, by rw [hz]; exact hB2.out⟩
    clear hg2 hok
    replace hfin := hide hfin
    go_simp
    refine hK _ _ ?_
    clear hK K
    iterate 5 (refine wpList_step fun K hK => ?_; go_simp; refine hK _ _ ?_; clear hK K)
    refine wpList_nil ?_
    go_simp
    go_wp2_with fail
    go_ret2
    exact hfin.out
  have lr : w2.rangeAt z 0 (suL s) := blk_range (cs := arrS s) hg2
  obtain ⟨w3, hw3⟩ : ∃ w3, w2.alloc (.cells (diA m s (.slice none 0 0)) 33) = w3 := ⟨_, rfl⟩
  have hb3 : Below w2.heap.size w2 w3 := hw3 ▸ (Below.refl _ _).alloc (Nat.le_refl _) _
  have hg3 : w3.heap[w2.heap.size]? = some (.cells (diA m s (.slice none 0 0)) 33 (0, 0)) := hw3 ▸ blk_new _ _ _
  have hD : DiC w3 z w2.heap.size (.slice none 0 0) 0 := ⟨⟨m, s, hg3, hM.on hb3⟩, ⟨[], World.ownsRow_nil _ _ _ _⟩, by omega⟩
  have hB3 := hB2.out.trans (hb3.mono (by omega))
  obtain ⟨q, hq⟩ : ∃ q, w2.heap.size = q := ⟨_, rfl⟩
  rw [hq] at hD
  clear hg2 hM hb3 hg3 hB2
  replace lr := hide lr
  replace hD := hide hD
  replace hB3 := hide hB3
  replace hok := hide hok
  go_simp
  refine hK _ _ ?_
  clear hK K
  iterate 5 (refine wpList_step fun K hK => ?_; go_simp; refine hK _ _ ?_; clear hK K)
  refine wpList_nil ?_
  go_simp
  go_upto_region 4 with fail
  apply wp_region_lit
  iterate 1 (refine wpList_plain rfl fun K hK => ?_; go_simp; refine hK _ _ ?_; clear hK K)
  refine wpList_load_mid rfl 28 (.tmp 1) rfl z 0 rfl (suL s) _ lr.out Tryz.underlying28 rfl size_su ?_
  refine wpl_val (.agg (diA m s (.slice none 0 0))) rfl (build_di m s _ (.tmp 14) (.tmp 15) rfl rfl rfl w2) ?_
  iterate 1 (refine wpList_plain rfl fun K hK => ?_; go_simp; refine hK _ _ ?_; clear hK K)
  clear hw3
  iterate 2 (refine wpList_plain rfl fun K hK => ?_; go_simp; refine hK _ _ ?_; clear hK K)
  refine wpList_nil ?_
  go_simp
  go_wp2_with fail
  go_ret2
  exact ⟨.inl ⟨hok.out, q, rfl, by rw [hz]; exact hD.out⟩, by rw [hz]; exact hB3.out⟩
end Mach33
end Go.Proofs.YtdneeablghlemaaGreatDoor
/- snap.put and law 44's four, by contract: an op's bytes, put behind a row of bytes. Conditions: an op that may be kept, a row of the call's own, sizes below 2^37. -/
namespace Go.Proofs.YtdneeablghlemaaGreatDoor
open Go.RowKit Go.ChangeShapes Go.WideShapes Go.ChangeAt Go.Deep
theorem u8m {z : Int} {x : Nat} (h : z = (x : Int) % 256) : Value.int .u8 z = u8v (UInt8.ofNat x) := by rw [h, u8v_mod]
theorem list4 {α : Type} {a0 a1 a2 a3 b0 b1 b2 b3 : α} (h0 : a0 = b0) (h1 : a1 = b1) (h2 : a2 = b2) (h3 : a3 = b3) : [a0, a1, a2, a3] = [b0, b1, b2, b3] := by
  subst h0 h1 h2 h3; rfl
theorem list2 {α : Type} {a0 a1 b0 b1 : α} (h0 : a0 = b0) (h1 : a1 = b1) : [a0, a1] = [b0, b1] := by subst h0 h1; rfl
theorem beB4 (N : Nat) : beB N 4 = [UInt8.ofNat (N / 16777216), UInt8.ofNat (N / 65536), UInt8.ofNat (N / 256), UInt8.ofNat N] := by simp [beB]
namespace Snap
def upB (b : Bool) : UInt8 := if b then 1 else 0
set_option maxRecDepth 20000 in
set_option maxHeartbeats 8000000 in
theorem put_op (base : Nat) (v : Value) (xs : List UInt8) (e : OpD) (w : World) (hown : OwnB w base v xs) (hbase : base ≤ w.heap.size) (hok : okOp e.o) (hd : IsB w base e.A e.o.xs.length e.o.xs) (hl : xs.length ≤ 137438953472) :
    Calls Tryz.prog 22 #[v, e.v] w fun x w' => ∃ v', x = .returned v' ∧ OwnB w' base v' (xs ++ encP e.o) ∧ Below base w w' := by
  obtain ⟨⟨k, ys, s, h, n, up⟩, A, c⟩ := e
  obtain ⟨h1, h2, h3, h4, h5, h6, h7, h8⟩ := hok
  unfold OpD.v
  simp only at h1 h2 h3 h4 h5 h6 h7 h8 hd ⊢
  obtain ⟨k, rfl⟩ : ∃ j : Nat, k = (j : Int) := ⟨k.toNat, by omega⟩
  obtain ⟨h, rfl⟩ : ∃ j : Nat, h = (j : Int) := ⟨h.toNat, by omega⟩
  obtain ⟨n, rfl⟩ : ∃ j : Nat, n = (j : Int) := ⟨n.toNat, by omega⟩
  have hss := str_size s
  obtain ⟨sb, hsb⟩ : ∃ sb, str s = sb := ⟨_, rfl⟩
  rw [hsb] at hss ⊢
  have hb1 : Below w.heap.size w (w.alloc (.cells #[.int .i64 (k : Int), .slice A ys.length c, .string sb, .int .i64 (h : Int), .int .i64 (n : Int), .bool up] 42)) := (Below.refl _ _).alloc (Nat.le_refl _) _
  have hbox := blk_new w 42 #[.int .i64 (k : Int), .slice A ys.length c, .string sb, .int .i64 (h : Int), .int .i64 (n : Int), .bool up]
  have hown1 := hown.alloc (.cells #[.int .i64 (k : Int), .slice A ys.length c, .string sb, .int .i64 (h : Int), .int .i64 (n : Int), .bool up] 42)
  have hv1 := hown.off (Nat.le_refl _)
  obtain ⟨w1, hw1⟩ : ∃ w1, w.alloc (.cells #[.int .i64 (k : Int), .slice A ys.length c, .string sb, .int .i64 (h : Int), .int .i64 (n : Int), .bool up] 42) = w1 := ⟨_, rfl⟩
  have hz1 : w.heap.size < w1.heap.size := by rw [← hw1]; simp
  rw [hw1] at hb1 hbox hown1
  have hcg := blk_cell hbox
  have hB1 := hb1.mono hbase
  have hd1 := hd.below hB1
  obtain ⟨u, hu⟩ : ∃ u, upB up = u := ⟨_, rfl⟩
  replace hb1 := hide hb1
  replace hbox := hide hbox
  replace hown1 := hide hown1
  replace hd1 := hide hd1
  replace hd := hide hd
  replace hown := hide hown
  replace hsb := hide hsb
  replace hu := hide hu
  replace hv1 := hide hv1
  replace hB1 := hide hB1
  go_enter Tryz.func22, Tryz.ntmps22
  go_upto_if 7 with fail
  go_cut [5] (fun uv wx => uv = .int .u8 (u.toNat : Int) ∧ w1 = wx)
  case first =>
    rcases up with _ | _
    · obtain rfl := hu.out
      go_wp2_with fail
      go_meet
      exact ⟨rfl, rfl⟩
    · obtain rfl := hu.out
      go_wp2_with fail
      go_meet
      exact ⟨rfl, rfl⟩
  case rest =>
  obtain ⟨rfl, rfl⟩ := hcut
  clear hw1
  go_wp2_with (at_builtin; refine wpl_lit_bv rfl (.tmp 8) (.tmp 13) rfl base v xs [UInt8.ofNat k, u] 2 2 rfl rfl ?_ rfl ?_ ?_ ?_ ?_)
  · exact list2 (u8m (by omega)) rfl
  · exact hown1.out
  · omega
  · omega
  intro v2 w2 hown2 hg2
  have hB2 := hB1.out.trans (hg2.below hown1.out (by omega))
  have z2 := hg2.grown.size
  obtain ⟨hbox2, hv2⟩ := hg2.box hbox.out hv1.out
  clear hcg
  have hcg := blk_cell hbox2
  replace hown2 := hide hown2
  replace hg2 := hide hg2
  replace hB2 := hide hB2
  replace hbox2 := hide hbox2
  replace hv2 := hide hv2
  go_wp2_with fail
  refine (all_lit base _ _ 4 _ rfl [h, n, ys.length] _ rfl 3 _ rfl _ _ _ rfl hown2.out (by omega) (by omega) (by rw [List.length_append]; simp; omega) (by omega) ?_).mono ?_
  · intro N hN
    simp only [List.mem_cons, List.not_mem_nil, or_false] at hN
    omega
  rintro e w3 ⟨v3, rfl, hown3, hg3⟩
  have hB3 := hB2.out.trans (hg3.below hown2.out (by omega))
  have z3 := hg3.grown.size
  obtain ⟨hbox3, hv3⟩ := hg3.box hbox2.out hv2.out
  have hd3 := hd.out.below hB3
  clear hcg hg2 hg3 hown2 hB2 hbox2 hv2 hd1 hB1 hown1 hv1 hbox
  have hcg := blk_cell hbox3
  replace hown3 := hide hown3
  replace hB3 := hide hB3
  replace hbox3 := hide hbox3
  replace hv3 := hide hv3
  replace hd3 := hide hd3
  go_wp2_with (at_builtin; refine wpl_src_bv rfl (.tmp 28) (.tmp 30) rfl base v3 _ ys A ys.length c base rfl rfl hown3.out hd3.out (by omega) ?_ ?_)
  · simp [allB_length]; omega
  intro v4 w4 hown4 hg4
  have hB4 := hB3.out.trans (hg4.below hown3.out (by omega))
  have z4 := hg4.grown.size
  obtain ⟨hbox4, hv4⟩ := hg4.box hbox3.out hv3.out
  clear hcg hg4 hown3 hB3 hbox3 hv3 hd3
  replace hown4 := hide hown4
  replace hB4 := hide hB4
  replace hbox4 := hide hbox4
  replace hv4 := hide hv4
  go_upto_region 7 with fail
  refine wp_region_S w4.heap.size (fun k => v4.ownBlock = some k) (by as_aux_lemma => kernel_rfl) ?_
  intro wd hbd
  have zd := hbd.size
  have hboxd := blk_below hbd (show w.heap.size < w4.heap.size by omega) hbox4.out
  have hownd := hown4.out.below hbd
  have hBd := hB4.out.trans (hbd.mono (by omega))
  have hcl := fun (l : KeptSW w4.heap.size (fun k => v4.ownBlock = some k) wd) (o : Nat) => blk_cell (l.blk hboxd (by omega) hv4.out) o
  replace hboxd := hide hboxd
  replace hownd := hide hownd
  replace hBd := hide hBd
  replace hbd := hide hbd
  refine wpS_seg w4.heap.size (fun k => v4.ownBlock = some k) 0 5 (fuel := 6) (by as_aux_lemma => kernel_rfl) (fun d _ _ _ _ h => by cases d <;> exact h) (by as_aux_lemma => kernel_rfl) (by as_aux_lemma => kernel_rfl) ?_
  simp only [List.drop_zero, List.take_succ_cons, List.take_zero]
  iterate 5 (refine wpQS_step (fun K hK => ?_); go_simp; refine hK _ ?_; clear hK K)
  refine wpQF_nil ?_
  refine wpS_seg w4.heap.size (fun k => v4.ownBlock = some k) 7 2 (fuel := 4) (by as_aux_lemma => kernel_rfl) (fun d _ _ _ _ h => by cases d <;> exact h) (by as_aux_lemma => kernel_rfl) (by as_aux_lemma => kernel_rfl) ?_
  simp only [List.drop_succ_cons, List.drop_zero, List.take_succ_cons, List.take_zero]
  iterate 2 (refine wpQS_step (fun K hK => ?_); go_simp; refine hK _ ?_; clear hK K)
  refine wpQF_nil ?_
  have r1 : IntKind.u8.wrap (s.length : Int) = (s.length : Int) := wraps_u8 _ (by omega) (by omega)
  rw [r1]
  clear r1 hcl
  refine wpF_step 5 rfl (by as_aux_lemma => kernel_rfl) (fun K hK => ?_)
  go_simp
  have hlit := OwnB.litv wd wd.heap.size [.int .u8 (s.length : Int)] [UInt8.ofNat s.length] 1 (by simp only [List.map_cons, List.map_nil]; rw [u8v_nat _ (by omega)]) rfl (Nat.le_refl _) (by omega)
  have hb5 : Below wd.heap.size wd (wd.alloc (.cells [Value.int .u8 (s.length : Int)].toArray 5)) := (Below.refl _ _).alloc (Nat.le_refl _) _
  refine hK _ _ (keptS_of_below hb5 zd) ?_
  clear hK K
  obtain ⟨w5, hw5⟩ : ∃ w5, wd.alloc (.cells [Value.int .u8 (s.length : Int)].toArray 5) = w5 := ⟨_, rfl⟩
  rw [hw5] at hlit hb5
  rw [hw5]
  clear hw5
  have hlit5 := hlit.reads.2.2.2
  have z5 := hb5.size
  have hown5 := hownd.out.below hb5
  have hB5 := hBd.out.trans (hb5.mono (by omega))
  refine wpF_step 6 rfl (by as_aux_lemma => kernel_rfl) (fun K hK => ?_)
  rw [if_pos (by rfl)]
  refine wp_app_b (.tmp 32) (.tmp 37) rfl base v4 _ [UInt8.ofNat s.length] _ 1 _ _ rfl rfl hown5 hlit5 (by omega) (by simp [allB_length]; omega) fun v6 w6 hown6 hg6 => hK _ _ (keptS_row hg6.grown (by omega) (.inl rfl)) ?_
  clear hK K
  have z6 := hg6.grown.size
  have hB6 := hB5.trans (hg6.below hown5 (by omega))
  have hm6 := hg6.moved.from (S := w4.heap.size) (by omega)
  refine wpF_step 9 rfl (by as_aux_lemma => kernel_rfl) (fun K hK => ?_)
  rw [if_pos (by rfl)]
  refine wp_app_s (.tmp 38) (.tmp 40) rfl base v6 _ s rfl (congrArg Value.string hsb.out.symm) hown6 (by omega) (by simp [allB_length]; omega) fun v7 w7 hown7 hg7 => hK _ _ (keptS_row hg7 (by omega) hm6) ?_
  clear hK K
  have hB7 := hB6.trans (hown6.belowRow hg7 (by omega))
  refine wpF_step 10 rfl (by as_aux_lemma => kernel_rfl) (fun K hK => ?_)
  go_simp
  refine hK _ _ (keptS_refl _ _ _) ?_
  clear hK K
  refine wpF_done (by as_aux_lemma => kernel_rfl) ?_ 0
  have hfin : (xs ++ UInt8.ofNat k :: u :: (allB 4 [h, n, ys.length] ++ ys)) ++ [UInt8.ofNat s.length] ++ s = xs ++ encP ⟨(k : Int), ys, s, (h : Int), (n : Int), up⟩ := by
    unfold encP
    rw [← hu.out]
    simp [allB, upB]
  rw [hfin] at hown7
  clear hown6 hown5 hg6 hg7 hB6 hB5 hlit hlit5 hb5
  replace hown7 := hide hown7
  replace hB7 := hide hB7
  go_wp2_with fail
  go_ret
  exact ⟨v7, rfl, hown7.out, hB7.out⟩
end Snap
end Go.Proofs.YtdneeablghlemaaGreatDoor
/- snap.Bytes, by contract: ops as bytes. Conditions: a slice of ops that reads as a list, at most 2048. -/
namespace Go.Proofs.YtdneeablghlemaaGreatDoor
open Go.RowKit Go.ChangeShapes Go.WideShapes Go.ChangeAt Go.Deep
namespace Snap
/-- May all of them be kept? -/
def okAll (es : List OpD) : Bool := es.all fun e => decide (okOp e.o)
def ops (es : List OpD) : List Op := es.map OpD.o
theorem size_enc {o : Op} (h : okOp o) : (encP o).length ≤ 65813 ∧ 15 ≤ (encP o).length := by
  obtain ⟨_, _, h3, h4, _⟩ := h
  simp only [encP, List.length_append, List.length_cons, List.length_nil, beB_length]
  omega
theorem body_le : ∀ (l : List Op), (∀ o ∈ l, okOp o) → (bodyL l).length ≤ l.length * 65813
  | [], _ => by simp [bodyL]
  | o :: l, h => by
    have h1 := body_le l fun x hx => h x (by simp [hx])
    have h2 := (size_enc (h o (by simp))).1
    simp only [bodyL, List.map_cons, List.flatten_cons, List.length_append, List.length_cons] at h1 ⊢
    omega
def BytesEnd (es : List OpD) (w w' : World) (x : Ending) : Prop :=
  ∃ v, x = .returned (.tuple #[v, .int .i64 (if okAll es = true then 0 else 1)]) ∧ OwnB w' w.heap.size v (if okAll es = true then encL (ops es) else []) ∧ Below w.heap.size w w'
set_option maxRecDepth 20000 in
set_option maxHeartbeats 8000000 in
theorem bytes_any (A : Option Addr) (n c : Nat) (es : List OpD) (w : World) (hx : IsO w w.heap.size A n es) (_hnc : n ≤ c) (_hcm : c ≤ maxLen) (hn : n ≤ 2048) :
    Calls Tryz.prog 9 #[.slice A n c] w fun x w' => BytesEnd es w w' x := by
  unfold maxLen at _hcm
  have hel := hx.1
  have t0 : ¬ (2048 : Int) < (n : Int) := by omega
  obtain ⟨w1, hcv0, hi1, hb1, hz1⟩ := bytes_const w magic #[.int .u8 68, .int .u8 83, .int .u8 84, .int .u8 49] rfl 4 rfl
  have hcv := hcv0 _ rfl
  clear hcv0
  have hs1 : w.heap.size + 1 ≤ w1.heap.size := by omega
  clear hz1
  replace hx := hide hx
  replace hi1 := hide hi1
  replace hb1 := hide hb1
  go_enter Tryz.func9, Tryz.ntmps9
  go_wp2_with fail
  refine (put_full ⟨w.heap.size, 0, none⟩ 4 _ magic (n : Int) 4 n 4 rfl rfl w1 hi1.out hs1 (by omega) (by omega) (by omega) (by omega)).mono ?_
  rintro e w2 ⟨v2, rfl, hown2', hb2⟩
  have hown2 := hown2'.weaken hb1.out.size
  have hB2 := hb1.out.trans (hb2.mono hb1.out.size)
  clear hown2' hb2 hcv
  replace hown2 := hide hown2
  replace hB2 := hide hB2
  go_wp2_with fail
  go_loopw [4, 18] (fun u i wr => ∃ j : Nat, j ≤ n ∧ i = .int .i64 (j : Int) ∧ OwnB wr w.heap.size u ((magic ++ beB n 4) ++ bodyL (ops (es.take j))) ∧ okAll (es.take j) = true ∧ Below w.heap.size w wr) (fun _ i _ => n - (intOf i).toNat)
  case atStart => exact ⟨0, Nat.zero_le _, rfl, by simpa [bodyL, ops] using hown2.out, by simp [okAll], hB2.out⟩
  case round =>
    obtain ⟨j, hj, rfl, hu, hok, hbr⟩ := hrel
    have hxr := hx.out.below hbr
    have zr := hbr.size
    replace hu := hide hu
    replace hok := hide hok
    replace hbr := hide hbr
    replace hxr := hide hxr
    by_cases hlt : j < n
    · obtain ⟨b, off, e, rfl, hbl, hge, hde, c0, c1, c2, c3, c4, c5⟩ := hxr.out.at hlt
      have t1 : (j : Int) < (n : Int) := by omega
      have t2 : (0 : Int) ≤ (j : Int) := by omega
      obtain ⟨⟨k, ys, s, h, m, up⟩, Ae, ce⟩ := e
      simp only at c0 c1 c2 c3 c4 c5
      have hwb : Below w.heap.size w (wr.alloc (.cells #[.int .i64 k, .slice Ae ys.length ce, .string (str s), .int .i64 h, .int .i64 m, .bool up] 42)) := hbr.out.alloc zr _
      have hown3 := hu.out.alloc (.cells #[.int .i64 k, .slice Ae ys.length ce, .string (str s), .int .i64 h, .int .i64 m, .bool up] 42)
      have hbox3 := blk_new wr 42 #[.int .i64 k, .slice Ae ys.length ce, .string (str s), .int .i64 h, .int .i64 m, .bool up]
      have hwr3 : Below w.heap.size wr (wr.alloc (.cells #[.int .i64 k, .slice Ae ys.length ce, .string (str s), .int .i64 h, .int .i64 m, .bool up] 42)) := (Below.refl _ _).alloc zr _
      obtain ⟨w3, hw3⟩ : ∃ w3, wr.alloc (.cells #[.int .i64 k, .slice Ae ys.length ce, .string (str s), .int .i64 h, .int .i64 m, .bool up] 42) = w3 := ⟨_, rfl⟩
      have hz3 : wr.heap.size < w3.heap.size := by rw [← hw3]; simp
      rw [hw3] at hwb hown3 hbox3 hwr3
      have hcg3 := blk_cell hbox3
      have hte : es.take (j + 1) = es.take j ++ [⟨⟨k, ys, s, h, m, up⟩, Ae, ce⟩] := by
        obtain ⟨hj1, e1⟩ := List.getElem?_eq_some_iff.1 hge
        rw [List.take_succ_eq_append_getElem hj1, e1]
      have hR := right_any ⟨⟨k, ys, s, h, m, up⟩, Ae, ce⟩ w3 (by have := hde.2.1; have := hde.2.2.1; simp only at *; omega) hde.2.2.2
      have hlj : (bodyL (ops (es.take j))).length ≤ 2048 * 65813 := by
        have h1 := body_le (ops (es.take j)) (fun o ho => by
          obtain ⟨e, he, rfl⟩ := List.mem_map.1 ho
          have h2 := hok.out
          unfold okAll at h2
          simpa using List.all_eq_true.1 h2 e he)
        have h2 : (ops (es.take j)).length ≤ 2048 := by simp only [ops, List.length_map, List.length_take]; omega
        exact Nat.le_trans h1 (Nat.mul_le_mul_right _ h2)
      have hmem : (⟨⟨k, ys, s, h, m, up⟩, Ae, ce⟩ : OpD) ∈ es := List.mem_of_getElem? hge
      replace hge := hide hge
      replace hde := hide hde
      replace hwb := hide hwb
      replace hown3 := hide hown3
      replace hbox3 := hide hbox3
      replace hte := hide hte
      replace hR := hide hR
      replace hlj := hide hlj
      replace hmem := hide hmem
      replace hwr3 := hide hwr3
      go_wp2_with fail
      refine hR.out.mono ?_
      rintro e w4 ⟨rfl, hb4⟩
      have hbox4 := blk_below hb4 hz3 hbox3.out
      have hown4 := hown3.out.below hb4
      have hB4 := hwb.out.trans (hb4.mono (by omega))
      have z4 := hb4.size
      have hd4 := (hde.out.1.below hwr3.out).below (hb4.mono (show w.heap.size ≤ w3.heap.size by omega))
      clear hcg3 hw3 c0 c1 c2 c3 c4 c5 hb4
      have hcg := blk_cell hbox4
      replace hbox4 := hide hbox4
      replace hown4 := hide hown4
      replace hB4 := hide hB4
      replace hd4 := hide hd4
      by_cases hop : okOp ⟨k, ys, s, h, m, up⟩
      · have hP := put_op w.heap.size _ _ ⟨⟨k, ys, s, h, m, up⟩, Ae, ce⟩ w4 hown4.out (by omega) hop hd4.out (by simp [beB_length, magic]; have := hlj.out; omega)
        rw [decide_eq_true hop]
        replace hop := hide hop
        replace hP := hide hP
        go_wp2_with fail
        refine hP.out.mono ?_
        rintro e w5 ⟨v5, rfl, hown5, hb5⟩
        have hB5 := hB4.out.trans hb5
        clear hcg hb5
        replace hown5 := hide hown5
        replace hB5 := hide hB5
        have hok5 : okAll (es.take (j + 1)) = true := by
          rw [hte.out]
          unfold okAll
          rw [List.all_append]
          have h1 := hok.out
          unfold okAll at h1
          rw [h1]
          simp [hop.out]
        have hown6 : OwnB w5 w.heap.size v5 ((magic ++ beB n 4) ++ bodyL (ops (es.take (j + 1)))) := by
          rw [hte.out]
          have h1 := hown5.out
          simpa [bodyL, ops] using h1
        replace hok5 := hide hok5
        replace hown6 := hide hown6
        go_wp2_with fail
        exact ⟨⟨j + 1, by omega, by go_num, hown6.out, hok5.out, hB5.out⟩, by simp [intOf]; omega⟩
      · rw [decide_eq_false hop]
        have hbad : ¬ okAll es = true := fun h1 => by
          unfold okAll at h1
          have h2 := List.all_eq_true.1 h1 _ hmem.out
          exact hop (by simpa using h2)
        have hfin : BytesEnd es w w4 (.returned (.tuple #[.slice none 0 0, .int .i64 1])) := ⟨_, by rw [if_neg hbad], by rw [if_neg hbad]; exact OwnB.nil _ _, hB4.out⟩
        clear hbad
        replace hop := hide hop
        replace hfin := hide hfin
        go_wp2_with fail
        go_ret2
        exact hfin.out
    · have t1 : ¬ (j : Int) < (n : Int) := by omega
      have htn : es.take j = es := List.take_of_length_le (by omega)
      have hfin : ∀ u, OwnB wr w.heap.size u ((magic ++ beB n 4) ++ bodyL (ops (es.take j))) → BytesEnd es w wr (.returned (.tuple #[u, .int .i64 0])) := by
        intro u h2
        have h1 := hok.out
        rw [htn] at h1 h2
        refine ⟨_, by rw [if_pos h1], ?_, hbr.out⟩
        rw [if_pos h1]
        unfold encL
        rw [← List.append_assoc, show (ops es).length = n by simp [ops, hel]]
        exact h2
      clear htn
      replace hfin := hide hfin
      go_wp2_with fail
      go_ret2
      exact hfin.out _ hu.out
end Snap
end Go.Proofs.YtdneeablghlemaaGreatDoor
/- snap: Ops, Again: ops done again in a new diary. Condition: ops that start a balancer again. -/
namespace Go.Proofs.YtdneeablghlemaaGreatDoor
open Go.RowKit Go.ChangeShapes Go.WideShapes Go.ChangeAt Go.Deep
namespace Mach33
open Snap (OpD IsO OkD cells okAll)
theorem ops_none (dv : Value) (w : World) (q : Calls Tryz.prog 17 #[dv] w fun e w'' => e = .returned (.bool true) ∧ w'' = w) : Calls Tryz.prog 6 #[dv] w fun e w' => e = .returned (.slice none 0 0) ∧ w' = w := by
  replace q := hide q
  go_enter Tryz.func6, Tryz.ntmps6
  go_wp2_with fail
  refine (q.out).mono ?_
  rintro e w1 ⟨rfl, rfl⟩
  clear q
  go_wp2_with fail
  go_ret
  exact ⟨rfl, rfl⟩
/-- Such an op in a slice. -/
def E7 : OpD := ⟨⟨7, [], [], 0, 0, false⟩, none, 0⟩
theorem e7_is (e : OpD) (h : e = E7) : opA = #[.int .i64 e.o.k, .slice e.A e.o.xs.length e.c, .string (str e.o.s), .int .i64 e.o.h, .int .i64 e.o.n, .bool e.o.up] := by
  subst h
  rfl
theorem e7_ok (w : World) (B : Nat) : OkD w B E7 := ⟨⟨rfl, fun h => absurd h (Nat.lt_irrefl 0)⟩, Nat.le_refl _, by decide, by decide⟩
theorem below_act {w w' : World} {z d L : Nat} {lv : Value} (h : DiC w z d lv L) (hk : KeptS w.heap.size (fun k => k = d ∨ lv.ownBlock = some k) w w') : Below z w w' := by
  obtain ⟨xs, hr⟩ := h.row
  have := h.hb
  have := h.lt
  refine ⟨hk.os, hk.tape, hk.output, hk.size, fun k hk' => hk.block k (by omega) (fun e => ?_)⟩
  rcases e with e | e
  · omega
  · have := (World.ownsRow.lt hr _ e).1
    omega
def AgEnd (s : Su) (n : Nat) (w : World) (e : Ending) (w' : World) : Prop := (∃ v, e = .returned (.tuple #[v, .int .i64 (if okS s = true then (if 2048 < n then 6 else 0) else 1)])) ∧ Below w.heap.size w w'
set_option maxRecDepth 20000 in
set_option maxHeartbeats 8000000 in
theorem again_e (s : Su) (A : Option Addr) (n c : Nat) (w : World) (hx : IsO w w.heap.size A n (List.replicate n E7)) (hn : n ≤ 2060) : Calls Tryz.prog 10 #[.agg (arrS s), .slice A n c] w fun e w' => AgEnd s n w e w' := by
  have qp := fun w => dnew_all s w
  obtain ⟨w1, hw1⟩ : ∃ w1, w.alloc (.cells (arrS s) 28) = w1 := ⟨_, rfl⟩
  have hb1 : Below w.heap.size w w1 := hw1 ▸ (Below.refl _ _).alloc (Nat.le_refl _) _
  have hg1 : w1.heap[w.heap.size]? = some (.cells (arrS s) 28 (0, 0)) := hw1 ▸ blk_new _ _ _
  obtain ⟨z, hz⟩ : ∃ z, w.heap.size = z := ⟨_, rfl⟩
  rw [hz] at hb1 hg1 hx
  have hzl := (Array.getElem?_eq_some_iff.1 hg1).1
  have lr : w1.rangeAt z 0 (suL s) := blk_range (cs := arrS s) hg1
  replace qp := hide qp
  replace hb1 := hide hb1
  replace hg1 := hide hg1
  replace lr := hide lr
  replace hx := hide hx
  go_enter Tryz.func10, Tryz.ntmps10
  go_upto_region 1 with fail
  clear hw1
  apply wp_region_lit
  refine wpList_load_mid rfl 28 (.tmp 2) rfl z 0 rfl (suL s) _ lr.out Tryz.underlying28 rfl size_su ?_
  refine wpList_plain rfl fun K hK => ?_
  go_simp
  refine ((qp.out w1)).mono ?_
  rintro e w2 ⟨hend, hb2⟩
  have hB2 := hb1.out.trans (hb2.mono (by omega))
  have hz2 := hb2.size
  clear hb1 hg1 lr hb2 qp
  replace hB2 := hide hB2
  rcases hend with ⟨hok, d, rfl, hD⟩ | ⟨hok, rfl⟩
  case inr =>
    have hfin : AgEnd s n w (.returned (.tuple #[.pointer none, .int .i64 1])) w2 := ⟨⟨_, by rw [hok]; rfl⟩, by rw [hz]; exact hB2.out⟩
    clear hok
    replace hfin := hide hfin
    go_simp
    refine hK _ _ ?_
    clear hK K
    iterate 5 (refine wpList_step fun K hK => ?_; go_simp; refine hK _ _ ?_; clear hK K)
    refine wpList_nil ?_
    go_simp
    go_wp2_with fail
    go_ret2
    exact hfin.out
  have hD2 : DiC w2 z d (.slice none 0 0) 0 := ⟨hD.blk, ⟨[], World.ownsRow_nil _ _ _ _⟩, by have := hD.hb; omega⟩
  clear hD
  replace hok := hide hok
  replace hD2 := hide hD2
  go_simp
  refine hK _ _ ?_
  clear hK K
  iterate 5 (refine wpList_step fun K hK => ?_; go_simp; refine hK _ _ ?_; clear hK K)
  refine wpList_nil ?_
  go_simp
  go_wp2_with fail
  go_loopw [22] (fun iv wr => ∃ (j : Nat) (lv : Value), j ≤ n ∧ j ≤ 2048 ∧ iv = .int .i64 (j : Int) ∧ DiC wr z d lv j ∧ Below z w wr) (fun iv _ => n - (intOf iv).toNat)
  case atStart => exact ⟨0, _, by omega, by omega, rfl, hD2.out, hB2.out⟩
  case round =>
    obtain ⟨j, lv, hjn, hj8, rfl, hD, hB⟩ := hrel
    have zr : z ≤ wr.heap.size := by have := hB.size; omega
    by_cases hlt : j < n
    · obtain ⟨b, off, e, rfl, hbl, hge, -, c0, c1, c2, c3, c4, c5⟩ := (hx.out.below hB).at hlt
      have he : e = E7 := by
        have := List.mem_of_getElem? hge
        exact List.eq_of_mem_replicate this
      have hop := e7_is e he
      clear he
      obtain ⟨⟨k, ys, st, h, m, up⟩, Ae, ce⟩ := e
      dsimp only at c0 c1 c2 c3 c4 c5 hop
      obtain ⟨sb, hsb⟩ : ∃ sb, str st = sb := ⟨_, rfl⟩
      obtain ⟨yn, hyn⟩ : ∃ yn, ys.length = yn := ⟨_, rfl⟩
      rw [hsb] at c2 hop
      rw [hyn] at c1 hop
      clear hsb hyn
      have t1 : (j : Int) < (n : Int) := by omega
      have t2 : (0 : Int) ≤ (j : Int) := by omega
      obtain ⟨w3, hw3⟩ : ∃ w3, wr.alloc (.cells #[.int .i64 k, .slice Ae yn ce, .string sb, .int .i64 h, .int .i64 m, .bool up] 42) = w3 := ⟨_, rfl⟩
      have hb3 : Below wr.heap.size wr w3 := hw3 ▸ (Below.refl _ _).alloc (Nat.le_refl _) _
      have hg3 : w3.heap[wr.heap.size]? = some (.cells #[.int .i64 k, .slice Ae yn ce, .string sb, .int .i64 h, .int .i64 m, .bool up] 42 (0, 0)) := hw3 ▸ blk_new _ _ _
      have hD3 := hD.on hb3
      have hB3 := hB.trans (hb3.mono zr)
      have cc := blk_cell hg3
      clear hge hD hb3 hg3
      replace hD3 := hide hD3
      replace hB3 := hide hB3
      replace hop := hide hop
      by_cases h8 : j < 2048
      · have qa := act_e w3 hD3.out h8
        rw [hop.out] at qa
        replace qa := hide qa
        go_wp2_with fail
        refine (qa.out).mono ?_
        rintro e w4 ⟨rfl, lv4, hD4, -, hk4⟩
        have hB4 := hB3.out.trans (below_act hD3.out hk4)
        clear qa hw3 cc c0 c1 c2 c3 c4 c5 hk4 hD3 hB3
        have z4 : z ≤ w4.heap.size := by have := hB4.size; omega
        replace hD4 := hide hD4
        replace hB4 := hide hB4
        go_wp2_with fail
        exact ⟨⟨j + 1, lv4, by omega, by omega, by go_num, hD4.out.on ((Below.refl _ _).alloc (Nat.le_refl _) _), hB4.out.trans ((Below.refl _ _).alloc z4 _)⟩, by simp [intOf]; omega⟩
      · have h8' : j = 2048 := by omega
        have hD3' : DiC w3 z d lv 2048 := h8' ▸ hD3.out
        have qa := act_full w3 hD3'
        rw [hop.out] at qa
        have hfin : ∀ w4, Below w3.heap.size w3 w4 → AgEnd s n w (.returned (.tuple #[.pointer none, .int .i64 6])) w4 := fun w4 hb4 => ⟨⟨_, by rw [hok.out, if_pos rfl, if_pos (by omega)]⟩, by rw [hz]; exact hB3.out.trans (hb4.mono (by have := hB3.out.size; omega))⟩
        clear h8' hD3'
        replace qa := hide qa
        replace hfin := hide hfin
        go_wp2_with fail
        refine (qa.out).mono ?_
        rintro e w4 ⟨rfl, hb4⟩
        clear qa hw3 cc c0 c1 c2 c3 c4 c5 hD3 hB3
        have z4 := hb4.size
        replace hb4 := hide hb4
        go_wp2_with fail
        go_ret2
        exact hfin.out _ (hb4.out.trans ((Below.refl _ _).alloc z4 _))
    · have t1 : ¬ (j : Int) < (n : Int) := by omega
      have hfin : ∀ v, AgEnd s n w (.returned (.tuple #[v, .int .i64 0])) wr := fun v => ⟨⟨v, by rw [hok.out, if_pos rfl, if_neg (by omega)]⟩, by rw [hz]; exact hB⟩
      clear hD hB
      replace hfin := hide hfin
      go_wp2_with fail
      go_ret2
      exact hfin.out _
/-- More ops than may be. -/
theorem bytes_long (A : Option Addr) (n c : Nat) (w : World) (hn : 2048 < n) : Calls Tryz.prog 9 #[.slice A n c] w fun x w' => x = .returned (.tuple #[.slice none 0 0, .int .i64 6]) ∧ w' = w := by
  have t1 : (2048 : Int) < (n : Int) := by omega
  go_enter Tryz.func9, Tryz.ntmps9
  go_wp2_with fail
  go_ret2
  exact ⟨rfl, rfl⟩
end Mach33
end Go.Proofs.YtdneeablghlemaaGreatDoor
