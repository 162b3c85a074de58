/- store: changes that wait: Begin, add, Load, Weight, Drop. No condition. -/
import Derived.Test.YtcpokkkdmenmgaaGreatDoorQStorePlays20
import Derived.Test.YtcpokkkdmenmgaaGreatDoorQStorePlays3
import Derived.Maps.RangeWalk
namespace Go.Proofs.YtcpokkkdmenmgaaGreatDoor
open Go.RowKit Go.ChangeShapes Go.WideShapes Go.ChangeAt Go.Deep
namespace Store20
open Conf18 (Nd Vp Vw Cfg zA MapI lt_of_blk row_not_x row_set)
open Addr05 (Adr MaxAt)
open Val19
structure Ch where
  text : List UInt8
  name : List UInt8
  weight : Int
def chC (c : Ch) : List Value := [.string (str c.text), .string (str c.name), .int .i64 c.weight]
structure Tx where
  gen : Nat
  list : List Ch
  over : Bool
theorem info_ch : (Tryz.prog.info? 85).map (fun i => (i.zero, i.size, i.bytes)) = some (some (.agg #[.string ⟨#[]⟩, .string ⟨#[]⟩, .int .i64 0]), 3, 40) := by kernel_rfl
theorem chC_one (c : Ch) : ∀ u ∈ chC c, u.oneCell' = true := by
  intro u hu
  simp only [chC, List.mem_cons, List.not_mem_nil, or_false] at hu
  rcases hu with rfl | rfl | rfl <;> rfl
structure TxC (w : World) (base t s : Nat) (lv : Value) (T : Tx) : Prop where
  blk : w.heap[t]? = some (.cells #[.pointer (some ⟨s, 0, none⟩), .int .i64 (T.gen : Int), lv, .bool T.over] 59 (0, 0))
  row : w.ownsRow base 85 3 lv T.list.length (T.list.map chC).flatten
  hb : base ≤ t
def addT (T : Tx) (c : Ch) : Tx × Nat := if T.over = true then (T, 9) else if 64 ≤ T.list.length then (T, 6) else ({ T with list := T.list ++ [c] }, 0)
def TxTo (w w' : World) (base t s : Nat) (lv : Value) (T' : Tx) : Prop :=
  ∃ lv', TxC w' base t s lv' T' ∧ (lv'.ownBlock = lv.ownBlock ∨ ∃ k, lv'.ownBlock = some k ∧ w.heap.size ≤ k) ∧ KeptS w.heap.size (fun k => k = t ∨ lv.ownBlock = some k) w w'
section
variable {w w' : World} {base t s : Nat} {lv : Value} {T : Tx}
theorem TxC.lt (h : TxC w base t s lv T) : t < w.heap.size := lt_of_blk h.blk
theorem TxC.below (h : TxC w base t s lv T) (hb : Below w.heap.size w w') : TxC w' base t s lv T := ⟨(hb.block t h.lt).trans h.blk, row_on h.row hb, h.hb⟩
theorem TxC.same (h : TxC w base t s lv T) (hb : Below w.heap.size w w') : TxTo w w' base t s lv T := ⟨lv, h.below hb, .inl rfl, keptS_of_below hb (Nat.le_refl _)⟩
end
theorem add_nil (c : Ch) (w : World) : Calls Tryz.prog 28 #[.pointer none, .agg #[.string (str c.text), .string (str c.name), .int .i64 c.weight]] w fun e w' => e = .returned (.int .i64 9) ∧ Below w.heap.size w w' := by
  obtain ⟨w1, hw1⟩ : ∃ w1, w.alloc (.cells #[.string (str c.text), .string (str c.name), .int .i64 c.weight] 85) = w1 := ⟨_, rfl⟩
  have hb1 : Below w.heap.size w w1 := hw1 ▸ (Below.refl _ _).alloc (Nat.le_refl _) _
  replace hb1 := hide hb1
  go_enter Tryz.func28, Tryz.ntmps28
  go_upto_region 1 with fail
  clear hw1
  go_wp2_with fail
  go_ret
  exact ⟨rfl, hb1.out⟩
set_option maxRecDepth 20000 in
set_option maxHeartbeats 8000000 in
theorem add_any {base t s : Nat} {lv : Value} (T : Tx) (c : Ch) (w : World) (h : TxC w base t s lv T) :
    Calls Tryz.prog 28 #[.pointer (some ⟨t, 0, none⟩), .agg #[.string (str c.text), .string (str c.name), .int .i64 c.weight]] w fun e w' => e = .returned (.int .i64 ((addT T c).2 : Int)) ∧ TxTo w w' base t s lv (addT T c).1 := by
  obtain ⟨X, hX⟩ : ∃ X, addT T c = X := ⟨_, rfl⟩
  rw [hX]
  unfold addT at hX
  obtain ⟨w1, hw1⟩ : ∃ w1, w.alloc (.cells #[.string (str c.text), .string (str c.name), .int .i64 c.weight] 85) = w1 := ⟨_, rfl⟩
  have hb1 : Below w.heap.size w w1 := hw1 ▸ (Below.refl _ _).alloc (Nat.le_refl _) _
  have hg1 : w1.heap[w.heap.size]? = some (.cells #[.string (str c.text), .string (str c.name), .int .i64 c.weight] 85 (0, 0)) := hw1 ▸ blk_new _ _ _
  have h1 := h.below hb1
  obtain ⟨A, cap, hlv, hc1, hc2, -⟩ := own_isv h.row
  subst hlv
  have k2 := blk_cell h1.blk 2
  have k3 := blk_cell h1.blk 3
  by_cases ho : T.over = true
  · rw [if_pos ho] at hX
    subst hX
    rw [ho] at k3
    clear h1 hg1
    replace h := hide h
    replace hb1 := hide hb1
    go_enter Tryz.func28, Tryz.ntmps28
    go_upto_region 1 with fail
    clear hw1
    go_wp2_with fail
    go_ret
    exact ⟨rfl, h.out.same hb1.out⟩
  have ho2 : T.over = false := by simpa using ho
  rw [if_neg ho] at hX
  rw [ho2] at k3
  obtain ⟨L, hL⟩ : ∃ L, T.list.length = L := ⟨_, rfl⟩
  rw [hL] at k2 hX hc1
  by_cases hf : 64 ≤ L
  · rw [if_pos hf] at hX
    subst hX
    clear h1 hg1
    replace h := hide h
    replace hb1 := hide hb1
    replace hL := hide hL
    go_enter Tryz.func28, Tryz.ntmps28
    go_upto_region 1 with fail
    clear hw1
    go_wp2_with fail
    go_ret
    exact ⟨rfl, h.out.same hb1.out⟩
  rw [if_neg hf] at hX
  subst hX
  have hz := h.lt
  have hz1 := lt_of_blk hg1
  have hne : ∀ k, (Value.slice A L cap).ownBlock = some k → k < w.heap.size ∧ k ≠ t := by
    intro k hk
    have hk2 : (Value.slice A T.list.length cap).ownBlock = some k := by rw [hL]; exact hk
    refine ⟨(World.ownsRow.lt h.row _ hk2).2, ?_⟩
    rintro rfl
    rcases row_not_x h.row h.blk (by decide) with e | e
    · rw [e] at hk2; cases hk2
    · exact e hk2
  replace h := hide h
  replace h1 := hide h1
  replace hg1 := hide hg1
  replace hb1 := hide hb1
  replace hL := hide hL
  replace hne := hide hne
  go_enter Tryz.func28, Tryz.ntmps28
  go_upto_region 1 with fail
  clear hw1
  go_upto_region 5 with fail
  clear k2 k3
  refine wp_region_Y [10] (KeptS w1.heap.size (fun k => (Value.slice A L cap).ownBlock = some k)) (by as_aux_lemma => kernel_rfl) ?_
  intro w2 hbd
  have h2 := h1.out.below hbd
  have hg2 := blk_below hbd hz1 hg1.out
  have hB2 := hb1.out.trans (hbd.mono hb1.out.size)
  have ze := hbd.size
  have lx := fun l : RelW (KeptS w1.heap.size (fun k => (Value.slice A L cap).ownBlock = some k)) w2 => (show l.w.cell? ⟨t, 2, none⟩ = some (.slice A L cap) from (blk_cell ((l.hk.block t (by omega) (fun e => (hne.out _ e).2 rfl)).trans h2.blk) 2).trans (by rw [hL.out]; rfl))
  have lz := fun l : RelW (KeptS w1.heap.size (fun k => (Value.slice A L cap).ownBlock = some k)) w2 => blk_cell ((l.hk.block w.heap.size hz1 (fun e => by have := (hne.out _ e).1; omega)).trans hg2)
  clear h1 hg1 hb1 hbd
  replace h2 := hide h2
  replace hB2 := hide hB2
  replace hg2 := hide hg2
  refine wpY_seg [10] (KeptS w1.heap.size (fun k => (Value.slice A L cap).ownBlock = some k)) 0 6 (fuel := 5) (by as_aux_lemma => kernel_rfl) (fun d _ _ _ _ h => by cases d <;> exact h) (by as_aux_lemma => kernel_rfl) (by as_aux_lemma => kernel_rfl) (by as_aux_lemma => kernel_rfl) ?_
  simp only [List.drop_zero, List.take_succ_cons, List.take_zero]
  iterate 6 (refine wpQX_step (fun K hK => ?_); go_simp; refine hK _ ?_; clear hK K)
  refine wpQF_nil ?_
  clear lx lz
  refine wpW_step 6 rfl (by as_aux_lemma => kernel_rfl) (fun K hK => ?_)
  go_simp
  refine hK _ _ (relY_of (keptS_of_below ((Below.refl _ _).alloc (Nat.le_refl _) _) ze)) ?_
  clear hK K
  obtain ⟨wt, hwt⟩ : ∃ wt, w2.alloc (.cells (chC c).toArray 85) = wt := ⟨_, rfl⟩
  have hbt : Below w2.heap.size w2 wt := hwt ▸ (Below.refl _ _).alloc (Nat.le_refl _) _
  have hnt : wt.heap[w2.heap.size]? = some (.cells (chC c).toArray 85 (0, 0)) := hwt ▸ blk_new _ _ _
  change wpW _ _ _ _ _ _ _ _ (w2.alloc (.cells (chC c).toArray 85))
  rw [hwt]
  have ht := h2.out.below hbt
  have hBt := hB2.out.trans (hbt.mono hB2.out.size)
  have zt := hbt.size
  have hbz : base ≤ wt.heap.size := by have := ht.hb; have := ht.lt; omega
  clear hwt hbt h2 hB2 hg2
  refine wpW_step 7 rfl (by as_aux_lemma => kernel_rfl) (fun K hK => ?_)
  rw [if_pos (by unfold Region.wanted; rfl)]
  refine wp_app_c (T := 85) Tryz.underlying57 info_ch rfl (by decide) (by decide) (.tmp 25) (.tmp 27) rfl base (.slice A L cap) L (T.list.map chC).flatten (chC c) w2.heap.size rfl rfl (by have := ht.row; rw [hL.out] at this; exact this) hnt rfl (chC_one _) hbz (by omega) fun v11 w11 q1 q2 => hK _ _ (relY_of ⟨q2.grown.os, q2.grown.tape, q2.grown.output, q2.grown.size, fun k hk hne => q2.grown.block k (by omega) (fun e => hne e.symm)⟩) ?_
  clear hK K hnt
  obtain ⟨A11, c11, hv11, -, -, -⟩ := own_isv q1
  subst hv11
  have hz11 := q2.grown.size
  have hb11 := (q2.grown.block t (by omega) (fun e => (hne.out _ e.symm).2 rfl)).trans ht.blk
  have hcc := (blk_cell hb11 2)
  have hff := blk_free hb11 2
  obtain ⟨w12, hw12⟩ : ∃ w12, w11.setCell ⟨t, 2, none⟩ (.slice A11 (L + 1) c11) = w12 := ⟨_, rfl⟩
  obtain ⟨w12', e12, hg12, g12⟩ := store_cell hb11 2 (.slice A11 (L + 1) c11)
  rw [hw12] at e12
  subst e12
  have hfin : TxTo w w12 base t s (.slice A L cap) { T with list := T.list ++ [c] } := by
    refine ⟨.slice A11 (L + 1) c11, ⟨by simpa using hg12, ?_, h.out.hb⟩, ?_, ?_⟩
    · have q4 := hw12 ▸ row_set q1 hb11 (by decide) 2 (.slice A11 (L + 1) c11)
      show w12.ownsRow base _ 3 _ (T.list ++ [c]).length ((T.list ++ [c]).map chC).flatten
      rw [List.length_append, List.length_singleton, hL.out, List.map_append, List.flatten_append]
      simpa using q4
    · rcases q2.moved with e | ⟨k, e, hk⟩
      · exact .inl e
      · exact .inr ⟨k, e, by have := hBt.size; omega⟩
    · have hzt := hBt.size
      refine ⟨(g12.os.trans q2.grown.os).trans hBt.os, (g12.tape.trans q2.grown.tape).trans hBt.tape, (g12.output.trans q2.grown.output).trans hBt.output, by have := g12.size; omega, fun k hk hnk => ?_⟩
      refine ((g12.block k (by omega) (fun e => hnk (.inl (Option.some.inj e)))).trans (q2.grown.block k (by omega) (fun e => hnk (.inr e.symm)))).trans (hBt.block k hk)
  clear q1 q2 ht hBt hb11 hg12 g12 h
  replace hfin := hide hfin
  refine wpW_step 8 rfl (by as_aux_lemma => kernel_rfl) (fun K hK => ?_)
  go_simp
  refine hK _ _ (relY_of (IsRel.refl _)) ?_
  clear hK K
  refine wpW_step 9 rfl (by as_aux_lemma => kernel_rfl) (fun K hK => ?_)
  go_simp
  refine hK _ _ (relY_of (IsRel.refl _)) ?_
  clear hK K
  refine wpW_step 10 rfl (by as_aux_lemma => kernel_rfl) (fun K hK => ?_)
  go_simp
  refine hK _ _ (relY_wr (by as_aux_lemma => kernel_rfl)) ?_
  clear hK K hcc hff hw12
  refine wpW_done (by as_aux_lemma => kernel_rfl) ?_ _
  go_wp2_with fail
  go_ret
  exact ⟨rfl, by rw [hL.out]; exact hfin.out⟩
theorem xload_any {base t s : Nat} {lv : Value} (T : Tx) (y : List UInt8) (w : World) (h : TxC w base t s lv T) :
    Calls Tryz.prog 18 #[.pointer (some ⟨t, 0, none⟩), .string (str y)] w fun e w' => e = .returned (.int .i64 ((addT T ⟨y, [], 0⟩).2 : Int)) ∧ TxTo w w' base t s lv (addT T ⟨y, [], 0⟩).1 := by
  have q := add_any T ⟨y, [], 0⟩ w h
  dsimp only at q
  rw [show str [] = ⟨#[]⟩ from rfl] at q
  clear h
  replace q := hide q
  go_enter Tryz.func18, Tryz.ntmps18
  go_wp2_with fail
  refine (q.out).mono ?_
  rintro e w2 ⟨rfl, h2⟩
  clear q
  replace h2 := hide h2
  go_wp2_with fail
  go_ret
  exact ⟨rfl, h2.out⟩
theorem xload_nil (y : List UInt8) (w : World) : Calls Tryz.prog 18 #[.pointer none, .string (str y)] w fun e w' => e = .returned (.int .i64 9) ∧ Below w.heap.size w w' := by
  have q := add_nil ⟨y, [], 0⟩ w
  dsimp only at q
  rw [show str [] = ⟨#[]⟩ from rfl] at q
  replace q := hide q
  go_enter Tryz.func18, Tryz.ntmps18
  go_wp2_with fail
  refine (q.out).mono ?_
  rintro e w2 ⟨rfl, h2⟩
  clear q
  replace h2 := hide h2
  go_wp2_with fail
  go_ret
  exact ⟨rfl, h2.out⟩
theorem xweight_any {base t s : Nat} {lv : Value} (T : Tx) (y : List UInt8) (x : Int) (w : World) (h : TxC w base t s lv T) :
    Calls Tryz.prog 20 #[.pointer (some ⟨t, 0, none⟩), .string (str y), .int .i64 x] w fun e w' => e = .returned (.int .i64 ((addT T ⟨[], y, x⟩).2 : Int)) ∧ TxTo w w' base t s lv (addT T ⟨[], y, x⟩).1 := by
  have q := add_any T ⟨[], y, x⟩ w h
  dsimp only at q
  rw [show str [] = ⟨#[]⟩ from rfl] at q
  clear h
  replace q := hide q
  go_enter Tryz.func20, Tryz.ntmps20
  go_wp2_with fail
  refine (q.out).mono ?_
  rintro e w2 ⟨rfl, h2⟩
  clear q
  replace h2 := hide h2
  go_wp2_with fail
  go_ret
  exact ⟨rfl, h2.out⟩
theorem xweight_nil (y : List UInt8) (x : Int) (w : World) : Calls Tryz.prog 20 #[.pointer none, .string (str y), .int .i64 x] w fun e w' => e = .returned (.int .i64 9) ∧ Below w.heap.size w w' := by
  have q := add_nil ⟨[], y, x⟩ w
  dsimp only at q
  rw [show str [] = ⟨#[]⟩ from rfl] at q
  replace q := hide q
  go_enter Tryz.func20, Tryz.ntmps20
  go_wp2_with fail
  refine (q.out).mono ?_
  rintro e w2 ⟨rfl, h2⟩
  clear q
  replace h2 := hide h2
  go_wp2_with fail
  go_ret
  exact ⟨rfl, h2.out⟩
theorem drop_nil (w : World) : Calls Tryz.prog 23 #[.pointer none] w fun e w' => e = .returned (.tuple #[]) ∧ w' = w := by
  go_enter Tryz.func23, Tryz.ntmps23
  go_wp2_with fail
  exact bodyPost_end (v := .tuple #[]) (by simp [results, Tryz.results23, go_sem]) rfl ⟨rfl, rfl⟩
theorem TxC.over {w w' : World} {base t s : Nat} {lv : Value} {T : Tx} (h : TxC w base t s lv T) (e : w.setCell ⟨t, 3, none⟩ (.bool true) = w') : TxC w' base t s lv { T with over := true } ∧ KeptS w.heap.size (fun k => k = t) w w' := by
  obtain ⟨w2, e2, hg, g2⟩ := store_cell h.blk 3 (.bool true)
  rw [e2] at e
  subst e
  have hr := row_set h.row h.blk (by decide) 3 (.bool true)
  rw [e2] at hr
  exact ⟨⟨by simpa using hg, hr, h.hb⟩, ⟨g2.os, g2.tape, g2.output, g2.size, fun k hk hne => g2.block k hk (fun e => hne (Option.some.inj e))⟩⟩
theorem drop_any {base t s : Nat} {lv : Value} {T : Tx} {w : World} (h : TxC w base t s lv T) : Calls Tryz.prog 23 #[.pointer (some ⟨t, 0, none⟩)] w fun e w' => e = .returned (.tuple #[]) ∧ TxC w' base t s lv { T with over := true } ∧ KeptS w.heap.size (fun k => k = t) w w' := by
  have c3 := blk_cell h.blk 3
  have f3 := blk_free h.blk 3
  have q := fun w' => h.over (w' := w')
  clear h
  replace q := hide q
  go_enter Tryz.func23, Tryz.ntmps23
  go_wp2_with fail
  exact bodyPost_end (v := .tuple #[]) (by simp [results, Tryz.results23, go_sem]) rfl ⟨rfl, q.out _ rfl⟩
theorem begin_any {w : World} {s mp lo hi n : Nat} {nv : Value} {S : St} (h : StC w s mp lo hi n nv S) (base : Nat) (hb : base ≤ w.heap.size) : Calls Tryz.prog 5 #[.pointer (some ⟨s, 0, none⟩)] w fun e w' => e = .returned (.pointer (some ⟨w.heap.size, 0, none⟩)) ∧ TxC w' base w.heap.size s (.slice none 0 0) ⟨S.gen, [], false⟩ ∧ Below w.heap.size w w' := by
  have q := none_any h
  have k1 := blk_cell h.blk 1
  clear h
  obtain ⟨w1, hw1⟩ : ∃ w1, w.alloc (.cells #[.pointer (some ⟨s, 0, none⟩), .int .i64 (S.gen : Int), .slice none 0 0, .bool false] 59) = w1 := ⟨_, rfl⟩
  have hb1 : Below w.heap.size w w1 := hw1 ▸ (Below.refl _ _).alloc (Nat.le_refl _) _
  have hg1 : w1.heap[w.heap.size]? = some (.cells #[.pointer (some ⟨s, 0, none⟩), .int .i64 (S.gen : Int), .slice none 0 0, .bool false] 59 (0, 0)) := hw1 ▸ blk_new _ _ _
  replace q := hide q
  replace hb1 := hide hb1
  replace hg1 := hide hg1
  go_enter Tryz.func5, Tryz.ntmps5
  go_wp2_with fail
  refine (q.out).mono ?_
  rintro e w ⟨rfl, rfl⟩
  clear q
  go_wp2_with fail
  go_ret
  exact ⟨rfl, ⟨hg1.out, World.ownsRow_nil _ _ _ _, hb⟩, hb1.out⟩
end Store20
end Go.Proofs.YtcpokkkdmenmgaaGreatDoor
/- store: copy: a store of its own. Condition: fewer than 2^40 weights. -/
namespace Go.Proofs.YtcpokkkdmenmgaaGreatDoor
open Go.RowKit Go.ChangeShapes Go.WideShapes Go.ChangeAt Go.Deep
namespace Store20
open Conf18 (Nd Vp Vw Cfg zA MapI lt_of_blk kl kLaw)
open Addr05 (Adr MaxAt)
open Val19
theorem key_str {key : Value} {k : Lit} (h : keyOf Tryz.prog 9 key = some k) : ∃ s : List UInt8, key = .string (str s) ∧ k = kl s ∧ s.length ≤ maxLen := by
  have hk := Tryz.underlying9
  cases key <;> simp [keyOf, hk, mapKey] at h
  rename_i x
  obtain ⟨h1, h2⟩ := h
  refine ⟨x.data.toList, by simp [str], h2.symm, ?_⟩
  simpa using h1
theorem same_str (a b : List UInt8) : (kl a).sameKey (kl b) = decide (a = b) := by
  show (a == b) = decide (a = b)
  by_cases h : a = b
  · subst h; simp
  · rw [decide_eq_false h]; simpa using h
set_option maxRecDepth 20000 in
set_option maxHeartbeats 8000000 in
theorem copy_any {w : World} {s mp lo hi n : Nat} {nv : Value} {S : St} (h : StC w s mp lo hi n nv S) (hn : n < big) :
    Calls Tryz.prog 29 #[.pointer (some ⟨s, 0, none⟩)] w fun e w' => ∃ x mp2, e = .returned (.pointer (some ⟨x, 0, none⟩)) ∧ StC w' x mp2 lo hi n nv S ∧ w.heap.size ≤ x ∧ w.heap.size ≤ mp2 ∧ Below w.heap.size w w' := by
  have hmm := @run_makeMap Tryz.prog
  obtain ⟨p, hp⟩ := h.now.ptr
  subst hp
  replace h := hide h
  go_enter Tryz.func29, Tryz.ntmps29
  go_upto_region 1 with fail
  refine wp_region_X (Below w.heap.size) (by as_aux_lemma => kernel_rfl) ?_
  intro w2 hbd
  have h2 := h.out.below hbd
  have ze := hbd.size
  have lx := fun (i : Nat) (l : RelW (Below w.heap.size) w2) => blk_cell (blk_below l.hk h.out.lt.1 h2.blk) i
  have lx0 := lx 0
  have lx1 := lx 1
  clear lx
  replace hbd := hide hbd
  replace h2 := hide h2
  refine wpX_seg (Below w.heap.size) 0 8 (fuel := 4) (by as_aux_lemma => kernel_rfl) (fun d _ _ _ _ h => by cases d <;> exact h) (by as_aux_lemma => kernel_rfl) (by as_aux_lemma => kernel_rfl) ?_
  simp only [List.drop_zero, List.take_succ_cons, List.take_zero]
  iterate 8 (refine wpQX_step (fun K hK => ?_); go_simp; refine hK _ ?_; clear hK K)
  refine wpQF_nil ?_
  clear lx0 lx1
  refine wpF_step 8 rfl (by as_aux_lemma => kernel_rfl) (fun K hK => ?_)
  go_simp
  refine hK _ _ ((Below.refl _ _).alloc (by omega) _) ?_
  clear hK K
  obtain ⟨w3, hw3⟩ : ∃ w3, w2.alloc (.map #[] 0) = w3 := ⟨_, rfl⟩
  have hb3 : Below w2.heap.size w2 w3 := hw3 ▸ (Below.refl _ _).alloc (Nat.le_refl _) _
  have hm3 : MapI w3 w2.heap.size 0 (fun _ => none) := hw3 ▸ MapI.made w2
  rw [hw3]
  have hz3 := mapI_lt hm3
  clear hw3
  refine wpF_step 9 rfl (by as_aux_lemma => kernel_rfl) (fun K hK => ?_)
  go_simp
  refine hK _ _ (IsRel.refl _) ?_
  clear hK K
  refine wpF_step 10 rfl (by as_aux_lemma => kernel_rfl) (fun K hK => ?_)
  go_simp
  refine hK _ _ ((Below.refl _ _).alloc (by omega) _) ?_
  clear hK K
  obtain ⟨w4, hw4⟩ : ∃ w4, w3.alloc (.cells #[.pointer p, .int .i64 (S.gen : Int), .map (some w2.heap.size), .bool true] 56) = w4 := ⟨_, rfl⟩
  have hb4 : Below w3.heap.size w3 w4 := hw4 ▸ (Below.refl _ _).alloc (Nat.le_refl _) _
  have hg4 : w4.heap[w3.heap.size]? = some (.cells #[.pointer p, .int .i64 (S.gen : Int), .map (some w2.heap.size), .bool true] 56 (0, 0)) := hw4 ▸ blk_new _ _ _
  rw [hw4]
  have hm4 := mapI_on hm3 (hb4.block _ hz3)
  have hz4 := lt_of_blk hg4
  have hB4 := hbd.out.trans ((hb3.mono ze).trans (hb4.mono (by omega)))
  have h4 := h.out.below hB4
  clear hw4 hb3 hb4 hm3 h2 hbd
  obtain ⟨D, hown, hD⟩ := h4.map
  have c2 := blk_cell h4.blk 2
  obtain ⟨x, hx⟩ : ∃ x, w3.heap.size = x := ⟨_, rfl⟩
  obtain ⟨m2, hm2⟩ : ∃ m, w2.heap.size = m := ⟨_, rfl⟩
  rw [hx] at hg4 hz4 hz3 ⊢
  rw [hm2] at hm4 hz3 ze hg4 ⊢
  have hlt := h.out.lt
  replace hg4 := hide hg4
  replace hm4 := hide hm4
  replace hB4 := hide hB4
  replace h4 := hide h4
  replace hD := hide hD
  refine wpF_step 11 rfl (by as_aux_lemma => kernel_rfl) (fun K hK => ?_)
  go_simp
  refine hK _ _ (IsRel.refl _) ?_
  clear hK K
  refine wpF_done (by as_aux_lemma => kernel_rfl) ?_ 0
  clear hx hm2
  go_upto_region 2 with fail
  apply wp_region_lit
  iterate 4 (refine wpList_plain rfl fun K hK => ?_; go_simp; refine hK _ _ ?_; clear hK K)
  refine wpList_range_own _ rfl _ 54 rfl 9 3 kLaw Tryz.underlying54 _ mp n D rfl hown ?_
  intro w0 hrg0 hg0 hs0
  refine wpList_nil ?_
  go_simp
  have hB0 := hB4.out.trans ⟨hg0.os, hg0.tape, hg0.output, hg0.size, fun k hk => hg0.block k (by omega) (by simp)⟩
  have hx0 := (hg0.block x hz4 (by simp)).trans hg4.out
  have hm0 := mapI_on hm4.out (hg0.block m2 (by omega) (by simp))
  obtain ⟨it, hit⟩ : ∃ r, w4.heap.size = r := ⟨_, rfl⟩
  rw [hit] at hrg0 ⊢
  clear hg0 hs0 hg4 hm4 hB4 hown c2 h4
  have hsz : Maps.size D ≤ n := hrg0.owns.size_le
  replace hB0 := hide hB0
  replace hm0 := hide hm0
  go_wp2_with fail
  go_loopw [4, 5] (fun _ _ wr => ∃ (left : Lit → Bool) (cnt n2 : Nat) (g : List UInt8 → Option Nat), wr.ranges Tryz.prog 9 (plainElem Tryz.prog 3) mp it n D left cnt ∧ MapI wr m2 n2 g ∧ n2 + cnt ≤ n ∧ (∀ y, g y = if left (kl y) = true then none else S.sets y) ∧ wr.heap[x]? = some (.cells #[.pointer p, .int .i64 (S.gen : Int), .map (some m2), .bool true] 56 (0, 0)) ∧ Below w.heap.size w wr)
    (fun _ _ wr => wr.rangeLeft mp it)
  case atStart =>
    refine ⟨_, _, 0, _, hrg0, hm0.out, by omega, fun y => ?_, hx0, hB0.out⟩
    have := (hD.out y).1
    rw [this]
    rcases S.sets y with _ | v <;> simp
  case round =>
    obtain ⟨left, cnt, n2, g, hrg, hmg, hnc, hg, hxr, hBr⟩ := hrel
    have hzb := hrg.lt
    have hmz := mapI_lt hmg
    have hxz := lt_of_blk hxr
    replace hg := hide hg
    replace hBr := hide hBr
    replace hmg := hide hmg
    replace hxr := hide hxr
    go_upto_region 3 with fail
    apply wp_region_lit
    refine wpList_next_ranges _ rfl _ rfl 9 kLaw (plainElem Tryz.prog 3) (fun s : List UInt8 => .string (str s)) (Value.int .i64) (fun key kl hkey => by obtain ⟨s, rfl, _⟩ := key_str hkey; exact ⟨s, rfl⟩) (fun v y hv => by obtain ⟨c, rfl, _⟩ := plainElem_int_inv Tryz.underlying3 hv; exact ⟨c, rfl⟩) mp it n D left cnt rfl hrg ?_ ?_
    · intro hc0 hl0
      have hgS : g = S.sets := by
        funext y
        rw [hg.out y, hl0 (kl y)]
        rfl
      have hB := hBr.out
      have hfin : StC wr x m2 lo hi n (.pointer p) S := by
        have h9 := h.out.below hB
        exact ⟨hxr.out, h9.now, hgS ▸ mapI_mono hmg.out (by omega), h9.ok, .inr (by have := h.out.hh; omega), .inr (by have := h.out.hh; omega), h9.hh⟩
      clear hg hgS hmg hxr hrg hl0 hc0 hBr hm0 hx0 hrg0 hB0
      replace hfin := hide hfin
      replace hB := hide hB
      go_simp
      go_wp2_with fail
      go_ret
      exact ⟨x, m2, rfl, hfin.out, by omega, by omega, hB.out⟩
    · intro y c kq z w1 cnt1 hkq hlq hvq hat hrg1 hlt1 hg1 hs1 hen
      obtain ⟨s', es, rfl, hlen⟩ := key_str hkq
      obtain rfl : y = s' := by simpa [str] using es
      obtain ⟨c', ec, hz, hwc⟩ := plainElem_int_inv Tryz.underlying3 hvq
      cases ec
      subst hz
      dsimp only at hat
      obtain ⟨v, hv⟩ : ∃ v, S.sets y = some v := by
        rcases e : S.sets y with _ | v
        · exfalso
          have h3 := fun zd => Maps.atKey_of_not_has (D := D) (k := kl y) (by rw [(hD.out y).1, e]; rfl) zd
          have h5 := (h3 (.lit (.bool true))).symm.trans (hat _)
          cases h5
        · exact ⟨v, rfl⟩
      obtain rfl : c = (v : Int) := by
        have h5 := ((hD.out y).2 v hv (.lit (.bool true))).symm.trans (hat _)
        cases h5
        rfl
      have hmi : m2 ≠ it := by omega
      have hxi : x ≠ it := by omega
      have hmx : m2 ≠ x := by omega
      have hm1 := mapI_on hmg.out (hg1.block m2 hmz (fun e => hmi (Option.some.inj e)))
      have hx1 := (hg1.block x hxz (fun e => hxi (Option.some.inj e))).trans hxr.out
      have hB1 : Below w.heap.size w w1 := hBr.out.trans ⟨hg1.os, hg1.tape, hg1.output, hg1.size, fun k hk => hg1.block k (by have := hBr.out.size; omega) (by intro e; have := Option.some.inj e; omega)⟩
      have c2 := blk_cell hx1 2
      have hxz1 := lt_of_blk hx1
      have hle := hrg.left_eq
      clear hs1 es hvq hg1 hxr hmg hBr hm0 hx0 hrg0 hB0 hsz hrg
      replace hm1 := hide hm1
      replace hB1 := hide hB1
      replace hx1 := hide hx1
      replace hrg1 := hide hrg1
      replace hat := hide hat
      go_simp
      go_upto_region 5 with fail
      apply wp_region_lit
      iterate 6 (refine wpList_plain rfl fun K hK => ?_; go_simp; refine hK _ _ ?_; clear hK K)
      refine wpList_plain rfl fun K hK => ?_
      refine wp_putI2 (.tmp 30) (.tmp 31) (.tmp 32) rfl m2 n2 g y v hlen (by unfold big at hn; omega) hwc rfl rfl rfl hm1.out fun w9 hm9 hg9 v9 => ?_
      refine hK _ _ ?_
      clear hK K
      have hrg9 := hrg1.out.kept hg9 (by intro e; have := Option.some.inj e; omega) (by intro e; exact hmi (Option.some.inj e).symm)
      have hx9 := (hg9.block x hxz1 (by intro e; exact hmx (Option.some.inj e).symm)).trans hx1.out
      have hB9 : Below w.heap.size w w9 := hB1.out.trans ⟨hg9.os, hg9.tape, hg9.output, hg9.size, fun k hk => hg9.block k (by have := hB1.out.size; omega) (by intro e; have := Option.some.inj e; omega)⟩
      have hle9 := hrg9.left_eq
      refine wpList_nil ?_
      go_simp
      clear c2 hen hg9 hm1 hB1 hx1 hrg1
      replace hrg9 := hide hrg9
      replace hx9 := hide hx9
      replace hB9 := hide hB9
      replace hm9 := hide hm9
      replace hat := hide hat
      replace hle := hide hle
      replace hle9 := hide hle9
      go_wp2_with fail
      refine ⟨⟨_, cnt1, _, _, hrg9.out, hm9.out, by omega, fun u => ?_, hx9.out, hB9.out⟩, by rw [hle.out, hle9.out]; exact hlt1⟩
      rw [same_str]
      by_cases e : u = y
      · subst e
        simp [hv]
      · simp [e, hg.out u]
end Store20
end Go.Proofs.YtcpokkkdmenmgaaGreatDoor
/- store: Commit. Conditions: texts of at most 65536 bytes, names of at most 2^40, fewer than 2^40 changes. -/
namespace Go.Proofs.YtcpokkkdmenmgaaGreatDoor
open Go.RowKit Go.ChangeShapes Go.WideShapes Go.ChangeAt Go.Deep
namespace Store20
open Conf18 (Nd Vp Vw Cfg zA MapI lt_of_blk row_not_x)
open Addr05 (Adr MaxAt)
open Val19
/-- A change of a store; and changes, one by one, up to the first error. -/
def chS (S : St) (c : Ch) : St × Int := if c.name = [] then ((loadS S c.text).1, (loadS S c.text).2.2) else ((weightS S c.name c.weight).1, ((weightS S c.name c.weight).2 : Int))
def runS (S : St) : List Ch → Except Int St
  | [] => .ok S
  | c :: l => if (chS S c).2 = 0 then runS (chS S c).1 l else .error (chS S c).2
theorem runS_app (S : St) : ∀ (l : List Ch) (c : Ch), runS S (l ++ [c]) = match runS S l with | .error e => .error e | .ok S1 => if (chS S1 c).2 = 0 then .ok (chS S1 c).1 else .error (chS S1 c).2 := by
  intro l
  induction l generalizing S with
  | nil => intro c; rfl
  | cons x l ih =>
    intro c
    rw [List.cons_append, runS, runS]
    split
    · exact ih _ c
    · rfl
theorem runS_next {S S1 : St} {l : List Ch} {i : Nat} {c : Ch} (h : runS S (l.take i) = .ok S1) (hc : l[i]? = some c) (h0 : (chS S1 c).2 = 0) : runS S (l.take (i + 1)) = .ok (chS S1 c).1 := by
  rw [List.take_add_one, hc, Option.toList, runS_app, h]
  exact if_pos h0
theorem runS_err {S S1 : St} {l : List Ch} {i : Nat} {c : Ch} (h : runS S (l.take i) = .ok S1) (hc : l[i]? = some c) (h0 : (chS S1 c).2 ≠ 0) : runS S l = .error (chS S1 c).2 := by
  have h1 : runS S (l.take (i + 1)) = .error (chS S1 c).2 := by
    rw [List.take_add_one, hc, Option.toList, runS_app, h]
    exact if_neg h0
  have key : ∀ (a b : List Ch) (S : St) (e : Int), runS S a = .error e → runS S (a ++ b) = .error e := by
    intro a b
    induction a with
    | nil => intro S e h; cases h
    | cons x a ih =>
      intro S e h
      rw [List.cons_append, runS]
      rw [runS] at h
      split
      · rename_i h0
        rw [if_pos h0] at h
        exact ih _ _ h
      · rename_i h0
        rw [if_neg h0] at h
        exact h
  have := key _ (l.drop (i + 1)) _ _ h1
  rwa [List.take_append_drop] at this
def commitS (S : St) (T : Tx) : St × Int := if T.over = true then (S, 9) else if T.gen ≠ S.gen then (S, 19) else match runS S T.list with
  | .error e => (S, e)
  | .ok S1 => (if T.list = [] then S1 else { S1 with gen := T.gen + 1 }, 0)
theorem ch_gen (S : St) (c : Ch) : (chS S c).1.gen ≤ S.gen + 1 := by
  unfold chS
  split
  · unfold loadS
    split
    · exact Nat.le_succ _
    · split
      · exact Nat.le_succ _
      · exact Nat.le_refl _
  · unfold weightS
    split
    · exact Nat.le_succ _
    · split
      · exact Nat.le_succ _
      · split
        · exact Nat.le_succ _
        · exact Nat.le_refl _
theorem alloc_ch (o : Oper) (h : o.op = .alloc 85) (ρ : Operand → Value) (w : World) : (execOp ρ o).run Tryz.prog w = .ok (.value (.pointer (some ⟨w.heap.size, 0, none⟩))) (w.alloc (.cells #[.string ⟨#[]⟩, .string ⟨#[]⟩, .int .i64 0] 85)) := by
  obtain ⟨d, op, t, ps, af, g⟩ := o
  dsimp only at h
  subst h
  kernel_rfl
theorem st_one (p : Option Addr) (g : Int) (m : Option Nat) (b : Bool) : (#[.pointer p, .int .i64 g, .map m, .bool b] : Array Value).all (·.oneCell') = true := all_oneCell_toArray (by
  intro u hu
  simp only [List.mem_cons, List.not_mem_nil, or_false] at hu
  rcases hu with rfl | rfl | rfl | rfl <;> rfl)
theorem ch_one (a b : ByteArray) (c : Int) : (#[.string a, .string b, .int .i64 c] : Array Value).all (·.oneCell') = true := all_oneCell_toArray (by
  intro u hu
  simp only [List.mem_cons, List.not_mem_nil, or_false] at hu
  rcases hu with rfl | rfl | rfl <;> rfl)
theorem StC.setGen {w w' : World} {s mp lo hi n g : Nat} {nv : Value} {S : St} (h : StC w s mp lo hi n nv S) (e : w.setCell ⟨s, 1, none⟩ (.int .i64 (g : Int)) = w') : StC w' s mp lo hi n nv { S with gen := g } ∧ KeptS w.heap.size (fun k => k = s) w w' := by
  obtain ⟨w2, e2, hg, g2⟩ := store_cell h.blk 1 (.int .i64 (g : Int))
  rw [e2] at e
  subst e
  have hz := g2.size
  refine ⟨⟨by simpa using hg, h.now.keep fun k h1 h2 => g2.block k (by have := h.hh; omega) (by intro e; have := Option.some.inj e; have := h.hs; omega), mapI_on h.map (g2.block mp h.lt.2 (by intro e; exact h.ne (Option.some.inj e).symm)), h.ok, h.hs, h.hm, Nat.le_trans h.hh hz⟩, g2.os, g2.tape, g2.output, hz, fun k hk hne => g2.block k hk (fun e => hne (Option.some.inj e))⟩
/-- What Commit leaves. -/
def ComTo (w w' : World) (base t s mp lo hi n : Nat) (lv : Value) (T : Tx) (S' : St) : Prop :=
  TxC w' base t s lv { T with over := true } ∧ KeptS w.heap.size (fun k => k = t ∨ k = s) w w' ∧ ∃ mp' lo' hi' n' nv', StC w' s mp' lo' hi' n' nv' S' ∧ n' ≤ n + T.list.length ∧ ((lo' = lo ∧ hi' = hi) ∨ w.heap.size ≤ lo') ∧ (mp' = mp ∨ w.heap.size ≤ mp')
theorem TxC.ne {w : World} {base t s0 s mp lo hi n : Nat} {lv nv : Value} {T : Tx} {S : St} (h : TxC w base t s0 lv T) (hS : StC w s mp lo hi n nv S) : t ≠ s ∧ t ≠ mp := by
  constructor
  · rintro rfl
    have := h.blk.symm.trans hS.blk
    simp at this
  · rintro rfl
    obtain ⟨es, k, h1⟩ := hS.map.blk
    rw [h.blk] at h1
    cases h1
theorem TxC.max {w : World} {base t s : Nat} {lv : Value} {T : Tx} (h : TxC w base t s lv T) (hM : MaxAt w) : t ≠ 0 := by
  obtain ⟨m, hm⟩ := hM
  intro e
  have h1 := blk_cell h.blk 0
  rw [e, hm] at h1
  cases h1
theorem keptS_mono2 {S : Nat} {P Q : Nat → Prop} {a b : World} (h : KeptS S P a b) (hPQ : ∀ k, P k → Q k) : KeptS S Q a b := ⟨h.os, h.tape, h.output, h.size, fun k hk hn => h.block k hk (fun e => hn (hPQ k e))⟩
theorem keptS_less {S S' : Nat} {P Q : Nat → Prop} {a b : World} (h : KeptS S P a b) (hS : S' ≤ S) (hPQ : ∀ k, k < S' → P k → Q k) : KeptS S' Q a b := ⟨h.os, h.tape, h.output, h.size, fun k hk hn => h.block k (by omega) (fun e => hn (hPQ k hk e))⟩
theorem TxC.keptS {w w' : World} {base t s : Nat} {lv : Value} {T : Tx} {P : Nat → Prop} (h : TxC w base t s lv T) (hb : KeptS w.heap.size P w w') (h1 : ¬ P t) (h2 : ∀ k, lv.ownBlock = some k → ¬ P k) : TxC w' base t s lv T := by
  refine ⟨(hb.block t h.lt h1).trans h.blk, ?_, h.hb⟩
  refine ⟨h.row.1, h.row.2.imp id ?_⟩
  rintro ⟨g, cap, cur, e1, e2, e3, e4⟩
  exact ⟨g, cap, cur, e1, e2, (hb.block g (lt_of_blk e3) (h2 g (by rw [e1]; rfl))).trans e3, e4⟩
set_option maxRecDepth 20000 in
set_option maxHeartbeats 16000000 in
theorem commit_any {base t s mp lo hi n : Nat} {lv nv : Value} (S : St) (T : Tx) (w : World) (hS : StC w s mp lo hi n nv S) (hT : TxC w base t s lv T) (hta : t < lo ∨ hi ≤ t) (hgen : S.gen + T.list.length < big) (hn : n + T.list.length < big) (hM : MaxAt w) (hcs : ∀ c ∈ T.list, c.text.length ≤ 65536 ∧ c.name.length ≤ maxLen) :
    Calls Tryz.prog 21 #[.pointer (some ⟨t, 0, none⟩)] w fun e w' => e = .returned (.int .i64 (commitS S T).2) ∧ ComTo w w' base t s mp lo hi n lv T (commitS S T).1 := by
  obtain ⟨X, hX⟩ : ∃ X, commitS S T = X := ⟨_, rfl⟩
  rw [hX]
  unfold commitS at hX
  have c3 := blk_cell hT.blk 3
  by_cases ho : T.over = true
  · rw [if_pos ho] at hX
    subst hX
    rw [ho] at c3
    have hT2 : TxC w base t s lv { T with over := true } := by
      have e : { T with over := true } = T := by obtain ⟨g, l, o⟩ := T; simp at ho; subst ho; rfl
      rw [e]; exact hT
    replace hS := hide hS
    replace hT2 := hide hT2
    clear hT hcs hM
    go_enter Tryz.func21, Tryz.ntmps21
    go_wp2_with fail
    go_ret
    exact ⟨rfl, hT2.out, keptS_refl _ _ _, mp, lo, hi, n, nv, hS.out, by omega, .inl ⟨rfl, rfl⟩, .inl rfl⟩
  have ho2 : T.over = false := by simpa using ho
  rw [if_neg ho] at hX
  rw [ho2] at c3
  have f3 := blk_free hT.blk 3
  obtain ⟨w1, hw1⟩ : ∃ w1, w.setCell ⟨t, 3, none⟩ (.bool true) = w1 := ⟨_, rfl⟩
  obtain ⟨hT1, hk1⟩ := hT.over hw1
  have hne := hT.ne hS
  have htl := hT.lt
  have hS1 := hS.keptS hk1 (fun e => hne.1 e.symm) (fun e => hne.2 e.symm) (fun k h1 h2 e => by omega)
  have hM1 := StC.maxAt hM hk1 (fun e => hT.max hM e.symm)
  have hz1 := hk1.size
  have hsl := hS.lt
  have hhi := hS.hh
  have hSs := hS.hs
  have hlvb : ∀ k, lv.ownBlock = some k → k < w.heap.size := fun k hk => (World.ownsRow.lt hT.row k hk).2
  clear hM hT
  replace hS := hide hS
  replace hT1 := hide hT1
  replace hS1 := hide hS1
  replace hM1 := hide hM1
  replace hk1 := hide hk1
  replace hcs := hide hcs
  replace hX := hide hX
  go_enter Tryz.func21, Tryz.ntmps21
  go_upto_region 4 with fail
  clear c3 f3 hw1
  refine wp_region_X (Below w1.heap.size) (by as_aux_lemma => kernel_rfl) ?_
  intro w2 hbd
  have hT2 := hT1.out.below hbd
  have hS2 := hS1.out.below hbd
  have hM2 := hM1.out.below hbd
  have hk2 : KeptS w.heap.size (fun k => k = t) w w2 := keptS_trans _ _ _ _ _ hk1.out (keptS_of_below hbd hz1)
  have lt1 := fun l : RelW (Below w1.heap.size) w2 => blk_cell (blk_below l.hk hT1.out.lt hT2.blk) 0
  have lt2 := fun l : RelW (Below w1.heap.size) w2 => blk_cell (blk_below l.hk hT1.out.lt hT2.blk) 1
  have lt3 := fun l : RelW (Below w1.heap.size) w2 => blk_cell (blk_below l.hk hS1.out.lt.1 hS2.blk) 1
  clear hT1 hS1 hM1 hk1 hbd
  replace hT2 := hide hT2
  replace hS2 := hide hS2
  replace hM2 := hide hM2
  replace hk2 := hide hk2
  refine wpX_seg (Below w1.heap.size) 0 12 (fuel := 0) (by as_aux_lemma => kernel_rfl) (fun d _ _ _ _ h => by cases d <;> exact h) (by as_aux_lemma => kernel_rfl) (by as_aux_lemma => kernel_rfl) ?_
  simp only [List.drop_zero, List.take_succ_cons, List.take_zero]
  iterate 12 (refine wpQX_step (fun K hK => ?_); go_simp; refine hK _ ?_; clear hK K)
  refine wpQF_nil ?_
  clear lt1 lt2 lt3
  refine wpF_done (by as_aux_lemma => kernel_rfl) ?_ 0
  by_cases hg : T.gen = S.gen
  case neg =>
    have hX1 := hX.out
    rw [if_pos hg] at hX1
    subst hX1
    have hne : ((T.gen : Int) != (S.gen : Int)) = true := by rw [bne_iff_ne]; omega
    go_wp2_with fail
    go_ret
    exact ⟨rfl, hT2.out, keptS_mono2 hk2.out (fun k e => .inl e), mp, lo, hi, n, nv, hS2.out, by omega, .inl ⟨rfl, rfl⟩, .inl rfl⟩
  have hX1 := hX.out
  rw [if_neg (fun h => h hg)] at hX1
  have hge : ((T.gen : Int) != (S.gen : Int)) = false := by rw [hg]; simp
  have k0 := blk_cell hT2.out.blk 0
  have q := copy_any hS2.out (by omega)
  clear hX
  replace hX1 := hide hX1
  replace q := hide q
  go_wp2_with fail
  refine (q.out).mono ?_
  rintro e w3 ⟨x, mp2, rfl, hS3, hx3, hm3, hb3⟩
  have hT3 := hT2.out.below hb3
  have hM3 := hM2.out.below hb3
  have hk3 : KeptS w.heap.size (fun k => k = t) w w3 := keptS_trans _ _ _ _ _ hk2.out (keptS_of_below hb3 hk2.out.size)
  have hz2 := hk2.out.size
  clear q k0 hT2 hS2 hM2 hk2 hb3 hge
  obtain ⟨A, cap, hlv, hc1, hc2, -⟩ := own_isv hT3.row
  subst hlv
  have k2 := blk_cell hT3.blk 2
  dsimp only at hc1 k2
  replace hS3 := hide hS3
  replace hT3 := hide hT3
  replace hM3 := hide hM3
  replace hk3 := hide hk3
  obtain ⟨L, hL⟩ : ∃ L, T.list.length = L := ⟨_, rfl⟩
  rw [hL] at hgen hn k2 hc1
  go_wp2_with fail
  clear k2
  go_loopw [5, 6, 40] (fun _ _ iv wr => ∃ (i : Nat) (S1 : St) (lo1 hi1 n1 : Nat) (nv1 : Value), i ≤ L ∧ iv = .int .i64 (i : Int) ∧ runS S (T.list.take i) = .ok S1 ∧ StC wr x mp2 lo1 hi1 n1 nv1 S1 ∧ n1 ≤ n + i ∧ S1.gen ≤ S.gen + i ∧ ((lo1 = lo ∧ hi1 = hi) ∨ w.heap.size ≤ lo1) ∧ TxC wr base t s (.slice A T.list.length cap) { gen := T.gen, list := T.list, over := true } ∧ MaxAt wr ∧ KeptS w.heap.size (fun k => k = t) w wr) (fun _ _ iv _ => L - (intOf iv).toNat)
  case atStart => exact ⟨0, S, lo, hi, n, _, by omega, rfl, by rw [List.take_zero]; rfl, hS3.out, by omega, by omega, .inl ⟨rfl, rfl⟩, hT3.out, hM3.out, hk3.out⟩
  case round =>
    obtain ⟨i, S1, lo1, hi1, n1, nv1, hil, rfl, hrun, hSr, hn1, hg1, hlo, hTr, hMr, hkr⟩ := hrel
    have hzr := hkr.size
    by_cases hin : i < L
    · have hlt : (i : Int) < (L : Int) := by omega
      obtain ⟨A9, cap9, e9, -, -, hIV⟩ := own_isv hTr.row
      cases e9
      obtain ⟨b, off, c, rfl, hbk, hni, hcell⟩ := IsT.at (f := chC) (size := 3) (fun _ => rfl) (by decide) (⟨rfl, hIV⟩ : IsT chC 3 wr wr.heap.size A T.list.length T.list) (i := i) (by omega)
      have wi1 : IntKind.i64.wrap ((i : Int) + 1) = ((i + 1 : Nat) : Int) := by rw [wraps62 _ (by omega) (by unfold big at hgen; omega)]; omega
      have hcl := hcs.out c (List.mem_of_getElem? hni)
      have hNx := fun h => runS_next hrun hni h
      have hEr := fun h => runS_err hrun hni h
      have hgn := ch_gen S1 c
      clear hIV hni hrun
      obtain ⟨ct, cn, cw⟩ := c
      dsimp only at hcl
      have y0 : wr.cell? ⟨b, off + i * 3, none⟩ = some (.string (str ct)) := hcell 0 _ rfl
      have y1 : wr.cell? ⟨b, off + i * 3 + 1, none⟩ = some (.string (str cn)) := hcell 1 _ rfl
      have y2 : wr.cell? ⟨b, off + i * 3 + 2, none⟩ = some (.int .i64 cw) := hcell 2 _ rfl
      clear hcell
      replace hNx := hide hNx
      replace hEr := hide hEr
      replace hSr := hide hSr
      replace hTr := hide hTr
      replace hMr := hide hMr
      replace hkr := hide hkr
      go_upto_region 9 with fail
      apply wp_region_lit
      iterate 2 (refine wpList_plain rfl fun K hK => ?_; go_simp; refine hK _ _ ?_; clear hK K)
      refine wpl_new rfl rfl 85 _ (alloc_ch _ rfl) 5 rfl (.tmp 43) rfl _ (fun _ => rfl) (fun _ => rfl) rfl (by kernel_rfl) (ch_one (str ct) (str cn) cw) ?_
      intro w5 hg5 hb5 hz5
      refine wpList_nil ?_
      go_simp
      have hS5 := hSr.out.below hb5
      have hT5 := hTr.out.below hb5
      have hM5 := hMr.out.below hb5
      have hk5 : KeptS w.heap.size (fun k => k = t) w w5 := keptS_trans _ _ _ _ _ hkr.out (keptS_of_below hb5 hzr)
      have d0 := blk_cell hg5 0
      have d1 := blk_cell hg5 1
      have d2 := blk_cell hg5 2
      clear y0 y1 y2 hSr hTr hMr hkr hb5 hg5
      have qL := load_any S1 ct hcl.1 w5 hS5 (by omega) hM5
      have qW := weight_any S1 cn hcl.2 cw w5 hS5 (by omega) (by omega)
      have ez : ((str cn).toList == []) = decide (cn = []) := by
        rw [show (str cn).toList = cn by simp [str, ByteArray.toList_eq]]
        rcases cn with _ | ⟨a, l⟩ <;> rfl
      obtain ⟨bn, hbn⟩ : ∃ b, decide (cn = []) = b := ⟨_, rfl⟩
      rw [hbn] at ez
      replace hS5 := hide hS5
      replace hT5 := hide hT5
      replace hM5 := hide hM5
      replace hk5 := hide hk5
      replace qL := hide qL
      replace qW := hide qW
      go_upto_if 46 with fail
      obtain ⟨ev, hev⟩ : ∃ e, (chS S1 ⟨ct, cn, cw⟩).2 = e := ⟨_, rfl⟩
      obtain ⟨S2, hS2⟩ : ∃ r, (chS S1 ⟨ct, cn, cw⟩).1 = r := ⟨_, rfl⟩
      have hz5' : w.heap.size ≤ w5.heap.size := by omega
      go_cut [6] (fun fv wx => fv = .int .i64 ev ∧ StTo w5 wx x mp2 lo1 hi1 n1 S2)
      case first =>
        cases bn
        · have e9 : chS S1 ⟨ct, cn, cw⟩ = ((weightS S1 cn cw).1, ((weightS S1 cn cw).2 : Int)) := if_neg (of_decide_eq_false hbn)
          rw [e9] at hev hS2
          dsimp only at hev hS2
          have q := qW.out
          rw [hS2] at q
          obtain ⟨m, hm⟩ : ∃ m, (weightS S1 cn cw).2 = m := ⟨_, rfl⟩
          rw [hm] at q hev
          subst hev
          clear e9 hm qL qW
          replace q := hide q
          go_wp2_with fail
          refine (q.out).mono ?_
          rintro e w6 ⟨rfl, h6⟩
          clear q
          replace h6 := hide h6
          go_wp2_with fail
          go_meet
          exact ⟨rfl, h6.out⟩
        · have e9 : chS S1 ⟨ct, cn, cw⟩ = ((loadS S1 ct).1, (loadS S1 ct).2.2) := if_pos (of_decide_eq_true hbn)
          rw [e9] at hev hS2
          dsimp only at hev hS2
          have q := qL.out
          rw [hS2, hev] at q
          clear e9 hev qL qW
          replace q := hide q
          go_wp2_with fail
          refine (q.out).mono ?_
          rintro e w6 ⟨rfl, h6⟩
          clear q
          replace h6 := hide h6
          go_wp2_with fail
          go_meet
          exact ⟨rfl, h6.out⟩
      case rest =>
      obtain ⟨rfl, lo2, hi2, n2, nv2, hS6, hn2, hlo2, hk6⟩ := hcut
      have hNx2 := hNx.out
      have hEr2 := hEr.out
      rw [hev, hS2] at hNx2
      rw [hev] at hEr2
      rw [hS2] at hgn
      have hbw : b < w.heap.size := hlvb b rfl
      have hTr6 := hT5.out.keptS hk6 (fun e => by omega) (fun k hk e => by
        have : b = k := Option.some.inj hk
        omega)
      have hmx := hS5.out.max hS5.out.now.ptr hM5.out
      have hM6 := StC.maxAt hM5.out hk6 (fun e => by rcases e with e | e; exact hmx.1 e.symm; exact hmx.2 e.symm)
      have hkc : KeptS w.heap.size (fun k => k = t) w wc := keptS_trans _ _ _ _ _ hk5.out (keptS_less hk6 hz5' (fun k hk e => by omega))
      have hlo3 : (lo2 = lo ∧ hi2 = hi) ∨ w.heap.size ≤ lo2 := by omega
      clear hk6 hNx hEr hS5 hT5 hM5 hk5 qL qW ez hbn d0 d1 d2 hev hS2
      replace hS6 := hide hS6
      replace hTr6 := hide hTr6
      replace hM6 := hide hM6
      replace hkc := hide hkc
      replace hNx2 := hide hNx2
      replace hEr2 := hide hEr2
      by_cases he : ev = 0
      case neg =>
        have hX2 := hX1.out
        rw [hEr2.out he] at hX2
        dsimp only at hX2
        subst hX2
        have hne9 : (ev != 0) = true := by rw [bne_iff_ne]; exact he
        clear hNx2 hEr2
        go_wp2_with fail
        go_ret
        exact ⟨rfl, by have := hTr6.out; rw [hL] at this; exact this, keptS_mono2 hkc.out (fun k e => .inl e), mp, lo, hi, n, nv, hS.out.keptS hkc.out (fun e => hne.1 e.symm) (fun e => hne.2 e.symm) (fun k h1 h2 e => by omega), by omega, .inl ⟨rfl, rfl⟩, .inl rfl⟩
      case pos =>
        have hrun2 := hNx2.out he
        subst he
        clear hNx2 hEr2
        replace hrun2 := hide hrun2
        go_wp2_with fail
        exact ⟨⟨i + 1, S2, lo2, hi2, n2, nv2, by omega, rfl, hrun2.out, hS6.out, by omega, by omega, hlo3, hTr6.out, hM6.out, hkc.out⟩, by show L - ((i : Int) + 1).toNat < L - ((i : Int)).toNat; omega⟩
    · obtain rfl : i = L := by omega
      have hlt : ((i : Int) < (i : Int)) = False := by simp
      have hX2 := hX1.out
      rw [← hL, List.take_length] at hrun
      rw [hrun] at hX2
      dsimp only at hX2
      subst hX2
      have k2 := blk_cell hTr.blk 2
      rw [hL] at k2
      have hrz := hkr.size
      have hx1 := hSr.blk
      have hne1 := hTr.ne hSr
      obtain ⟨S2, hS2⟩ : ∃ r, (if T.list = [] then S1 else { S1 with gen := T.gen + 1 }) = r := ⟨_, rfl⟩
      have kg := blk_cell hTr.blk 1
      have xg := blk_cell hx1 1
      have xf := blk_free hx1 1
      have wg : IntKind.i64.wrap ((S.gen : Int) + 1) = ((S.gen + 1 : Nat) : Int) := by rw [wraps62 _ (by omega) (by unfold big at hgen; omega)]; omega
      have hsg := fun w9 => StC.setGen (w' := w9) (g := S.gen + 1) hSr
      have hlz : w.heap.size ≤ x ∧ w.heap.size ≤ mp2 := by omega
      clear hrun hMr hS3 hT3 hM3 hk3
      replace hSr := hide hSr
      replace hTr := hide hTr
      replace hkr := hide hkr
      replace hx1 := hide hx1
      replace hS2 := hide hS2
      replace hsg := hide hsg
      go_upto_if 69 with fail
      clear k2
      go_cut [2] (fun _ wx => StC wx x mp2 lo1 hi1 n1 nv1 S2 ∧ TxC wx base t s (.slice A i cap) { gen := T.gen, list := T.list, over := true } ∧ KeptS w.heap.size (fun k => k = t) w wx)
      case first =>
        by_cases h0 : i = 0
        · subst h0
          have e0 : S1 = S2 := by rw [← hS2.out, if_pos (List.length_eq_zero_iff.1 hL)]
          subst e0
          clear kg xg xf hsg
          go_wp2_with fail
          go_meet
          exact ⟨hSr.out, by have := hTr.out; rw [hL] at this; exact this, hkr.out⟩
        · have e0 : { S1 with gen := S.gen + 1 } = S2 := by rw [← hS2.out, if_neg (by intro e; rw [e] at hL; simp at hL; omega), hg]
          have h1 : 0 < (i : Int) := by omega
          obtain ⟨w9, hw9⟩ : ∃ w9, wr.setCell ⟨x, 1, none⟩ (.int .i64 ((S.gen : Int) + 1)) = w9 := ⟨_, rfl⟩
          obtain ⟨hS9, hk9⟩ := hsg.out w9 (by rw [← hw9, Int.natCast_add]; rfl)
          rw [e0] at hS9
          have hT9 := hTr.out.keptS hk9 (fun e => hne1.1 e) (fun k hk e => by have := hlvb k hk; omega)
          have hk9' : KeptS w.heap.size (fun k => k = t) w w9 := keptS_trans _ _ _ _ _ hkr.out (keptS_less hk9 hrz (fun k hk e => by omega))
          clear hsg hSr hTr hkr hx1 hk9
          replace hS9 := hide hS9
          replace hT9 := hide hT9
          replace hk9' := hide hk9'
          go_wp2_with fail
          go_meet
          exact ⟨hS9.out, by have := hT9.out; rw [hL] at this; exact this, hk9'.out⟩
      case rest =>
      obtain ⟨hS9, hT9, hk9⟩ := hcut
      obtain ⟨p9, hp9⟩ := hS9.now.ptr
      subst hp9
      have hne9 := hT9.ne hS9
      have hSb := (hS.out.keptS hk9 (fun e => hne.1 e.symm) (fun e => hne.2 e.symm) (fun k h1 h2 e => by omega)).blk
      clear hSr hTr hkr hx1 hsg
      replace hS9 := hide hS9
      replace hT9 := hide hT9
      replace hk9 := hide hk9
      replace hSb := hide hSb
      go_upto_region 19 with fail
      refine wp_region_X (KeptS wc.heap.size (fun k => k = s)) (by as_aux_lemma => kernel_rfl) ?_
      intro wd hbd
      have hzd := hbd.size
      have hTd := hT9.out.below hbd
      have hSd := hS9.out.below hbd
      have hsd := blk_below hbd (lt_of_blk hSb.out) hSb.out
      have hkd : KeptS w.heap.size (fun k => k = t) w wd := keptS_trans _ _ _ _ _ hk9.out (keptS_of_below hbd hk9.out.size)
      have l1 := fun l : RelW (KeptS wc.heap.size (fun k => k = s)) wd => blk_cell ((l.hk.block t hT9.out.lt hne.1).trans hTd.blk) 0
      have hxs : x ≠ s := by omega
      have lx := fun (j : Nat) (l : RelW (KeptS wc.heap.size (fun k => k = s)) wd) => blk_cell ((l.hk.block x hS9.out.lt.1 hxs).trans hSd.blk) j
      have lx0 := lx 0
      have lx1 := lx 1
      have lx2 := lx 2
      have lx3 := lx 3
      clear lx hS9 hT9 hk9 hSb hbd
      replace hTd := hide hTd
      replace hSd := hide hSd
      replace hsd := hide hsd
      replace hkd := hide hkd
      refine wpX_seg (KeptS wc.heap.size (fun k => k = s)) 0 8 (fuel := 1) (by as_aux_lemma => kernel_rfl) (fun d _ _ _ _ h => by cases d <;> exact h) (by as_aux_lemma => kernel_rfl) (by as_aux_lemma => kernel_rfl) ?_
      simp only [List.drop_zero, List.take_succ_cons, List.take_zero]
      iterate 8 (refine wpQX_step (fun K hK => ?_); go_simp; refine hK _ ?_; clear hK K)
      refine wpQF_nil ?_
      clear l1 lx0 lx1 lx2 lx3
      refine wpF_step 8 rfl (by as_aux_lemma => kernel_rfl) (fun K hK => ?_)
      rw [if_pos (by unfold Region.wanted; rfl)]
      refine wp_st 56 (.tmp 85) (.tmp 84) rfl s 0 rfl #[.pointer p9, .int .i64 (S2.gen : Int), .map (some mp2), .bool true] rfl hsd.out (by simp) (by kernel_rfl) (st_one _ _ _ _) fun we hge ge => ?_
      refine hK _ _ (Pkt.keptS_grown1 ge hzd rfl) ?_
      clear hK K
      rw [putA_whole _ _ (by rfl)] at hge
      have hke : KeptS wd.heap.size (fun k => k = s) wd we := ⟨ge.os, ge.tape, ge.output, ge.size, fun k hk hn => ge.block k hk (fun e => hn (Option.some.inj e))⟩
      have hzw := hkd.out.size
      have hfin : ComTo w we base t s mp lo hi n (.slice A T.list.length cap) T S2 := by
        refine ⟨?_, ?_, mp2, lo1, hi1, n1, .pointer p9, ⟨hge, hSd.out.now.keep (Kp.of_keptS hke hSd.out.hh (fun k h1 h2 e => by omega)), mapI_on hSd.out.map (hke.block mp2 hSd.out.lt.2 (by omega)), hSd.out.ok, by omega, hSd.out.hm, Nat.le_trans hSd.out.hh ge.size⟩, by omega, by omega, .inr (by omega)⟩
        · have := hTd.out.keptS hke hne.1 (fun k hk e => by have h8 := row_not_x hTd.out.row hsd.out (by decide); rcases h8 with h8 | h8; (rw [h8] at hk; cases hk); exact h8 (by rw [hk, e]))
          rw [hL]
          exact this
        · exact keptS_trans _ _ _ _ _ (keptS_mono2 hkd.out (fun k e => .inl e)) (keptS_less hke hzw (fun k hk e => .inr e))
      clear hge ge hke hTd hSd hsd hkd
      replace hfin := hide hfin
      refine wpF_done (by as_aux_lemma => kernel_rfl) ?_ 0
      go_wp2_with fail
      · go_ret
        have h7 := hfin.out
        rw [← hS2.out, if_pos ‹T.list = []›, hL] at h7
        exact ⟨rfl, h7⟩
      · go_ret
        have h7 := hfin.out
        rw [← hS2.out, if_neg ‹¬T.list = []›, hg, hL] at h7
        exact ⟨rfl, h7⟩
end Store20
end Go.Proofs.YtcpokkkdmenmgaaGreatDoor
/- store: New; the law of layer 20: awake. No condition. -/
namespace Go.Proofs.YtcpokkkdmenmgaaGreatDoor
open Go.RowKit Go.ChangeShapes Go.WideShapes Go.ChangeAt Go.Deep
namespace Store20
open Conf18 (Nd Vp Vw Cfg zA MapI lt_of_blk confF)
open Addr05 (Adr MaxAt)
open Tree16 (findF find_any)
open Val19
def S0 : St := ⟨none, 0, fun _ => none⟩
theorem snew_any (w : World) : Calls Tryz.prog 4 #[] w fun e w' => ∃ s mp, e = .returned (.pointer (some ⟨s, 0, none⟩)) ∧ w.heap.size ≤ s ∧ w.heap.size ≤ mp ∧ StC w' s mp w.heap.size w.heap.size 0 (.pointer none) S0 ∧ Below w.heap.size w w' := by
  have hmm := @run_makeMap Tryz.prog
  obtain ⟨w1, hw1⟩ : ∃ w1, w.alloc (.map #[] 0) = w1 := ⟨_, rfl⟩
  have hb1 : Below w.heap.size w w1 := hw1 ▸ (Below.refl _ _).alloc (Nat.le_refl _) _
  have hm1 : MapI w1 w.heap.size 0 (fun _ => none) := hw1 ▸ MapI.made w
  obtain ⟨w2, hw2⟩ : ∃ w2, w1.alloc (.cells #[.pointer none, .int .i64 0, .map (some w.heap.size), .bool true] 56) = w2 := ⟨_, rfl⟩
  have hb2 : Below w1.heap.size w1 w2 := hw2 ▸ (Below.refl _ _).alloc (Nat.le_refl _) _
  have hg2 : w2.heap[w1.heap.size]? = some (.cells #[.pointer none, .int .i64 0, .map (some w.heap.size), .bool true] 56 (0, 0)) := hw2 ▸ blk_new _ _ _
  have hm2 := mapI_on hm1 (hb2.block _ (mapI_lt hm1))
  have hz1 := hb1.size
  have hB := hb1.trans (hb2.mono hz1)
  have hS : StC w2 w1.heap.size w.heap.size w.heap.size w.heap.size 0 (.pointer none) S0 := ⟨hg2, rfl, hm2, (fun c h => by cases h), .inr hz1, .inr (Nat.le_refl _), hB.size⟩
  clear hb1 hm1 hb2 hg2 hm2
  replace hB := hide hB
  replace hS := hide hS
  go_enter Tryz.func4, Tryz.ntmps4
  go_wp2_with fail
  go_ret
  exact ⟨w1.heap.size, w.heap.size, rfl, hz1, Nat.le_refl _, hS.out, hB.out⟩
def tA : List UInt8 := [108, 101, 118, 101, 108, 32, 97]
def tB : List UInt8 := [108, 101, 118, 101, 108, 32, 98]
def tC : List UInt8 := [108, 101, 118, 101, 108, 32, 99]
theorem tA_is : (match confF tA with | .error _ => false | .ok c => decide (validF c = 0)) = true := by kernel_rfl
theorem tB_is : (match confF tB with | .error _ => false | .ok c => decide (validF c = 0 ∧ findF c.nodes [98] = 0)) = true := by kernel_rfl
theorem tA_ok : ∃ c, loadS S0 tA = (⟨some c, 1, fun _ => none⟩, 0, 0) := by
  have h := tA_is
  rcases e : confF tA with p | c
  · rw [e] at h; cases h
  · rw [e] at h
    dsimp only at h
    have hv := of_decide_eq_true h
    refine ⟨c, ?_⟩
    unfold loadS
    rw [e]
    exact if_neg (fun h => h hv)
theorem tB_ok (c : Cfg) : ∃ c2, commitS ⟨some c, 1, fun _ => none⟩ ⟨1, [⟨tB, [], 0⟩], false⟩ = (⟨some c2, 2, fun _ => none⟩, 0) ∧ findF c2.nodes [98] = 0 := by
  have h := tB_is
  rcases e : confF tB with p | c2
  · rw [e] at h; cases h
  · rw [e] at h
    dsimp only at h
    have hv := of_decide_eq_true h
    refine ⟨c2, ?_, hv.2⟩
    have hl : ∀ S : St, loadS S tB = (⟨some c2, S.gen + 1, fun _ => none⟩, 0, 0) := by
      intro S
      unfold loadS
      rw [e]
      exact if_neg (fun h => h hv.1)
    have hc : ∀ S : St, chS S ⟨tB, [], 0⟩ = (⟨some c2, S.gen + 1, fun _ => none⟩, 0) := by
      intro S
      unfold chS
      rw [if_pos rfl, hl]
    unfold commitS
    rw [if_neg (by decide), if_neg (by simp)]
    dsimp only
    rw [runS, hc]
    rfl
theorem tC_ok (c : Cfg) : commitS ⟨some c, 2, fun _ => none⟩ ⟨1, [⟨tC, [], 0⟩], false⟩ = (⟨some c, 2, fun _ => none⟩, 19) := by
  unfold commitS
  rw [if_neg (by decide), if_pos (by simp)]
/-- What a change leaves below a base. -/
theorem below_step {B S : Nat} {P : Nat → Prop} {a b c : World} (h : Below B a b) (k : KeptS S P b c) (hS : B ≤ S) (hP : ∀ i, i < B → ¬ P i) : Below B a c :=
  ⟨k.os.trans h.os, k.tape.trans h.tape, k.output.trans h.output, Nat.le_trans h.size k.size, fun i hi => (k.block i (by omega) (hP i hi)).trans (h.block i hi)⟩
theorem TxTo.open {w w' : World} {base t s : Nat} {T : Tx} (h : TxTo w w' base t s (.slice none 0 0) T) : ∃ lv, TxC w' base t s lv T ∧ (∀ k, lv.ownBlock = some k → w.heap.size ≤ k) ∧ KeptS w.heap.size (fun k => k = t) w w' := by
  obtain ⟨lv, h1, h2, h3⟩ := h
  refine ⟨lv, h1, fun k hk => ?_, keptS_mono2 h3 (fun k e => by rcases e with e | e; exact e; cases e)⟩
  rcases h2 with e | ⟨j, e, hj⟩
  · rw [e] at hk; cases hk
  · rw [e] at hk
    cases hk
    exact hj
set_option maxRecDepth 20000 in
set_option maxHeartbeats 16000000 in
theorem sawake_any (w : World) (hM : MaxAt w) : Calls Tryz.prog 12 #[] w fun e w' => e = .returned (.bool true) ∧ Below w.heap.size w w' := by
  have q1 := snew_any w
  obtain ⟨cA, hA⟩ := tA_ok
  obtain ⟨cB, hB, hF⟩ := tB_ok cA
  have hC := tC_ok cB
  obtain ⟨B, hBz⟩ : ∃ b, w.heap.size = b := ⟨_, rfl⟩
  replace q1 := hide q1
  replace hA := hide hA
  replace hB := hide hB
  replace hF := hide hF
  replace hC := hide hC
  replace hM := hide hM
  go_enter Tryz.func12, Tryz.ntmps12
  go_wp2_with fail
  refine (q1.out).mono ?_
  rintro e w1 ⟨s, mp, rfl, hs, hmp, hS1, hb1⟩
  have hM1 := hM.out.below hb1
  have q2 := load_any S0 tA (by decide) w1 hS1 (by decide) hM1
  rw [hA.out] at q2
  dsimp only at q2
  unfold tA str at q2
  have hmx := hS1.max ⟨_, rfl⟩ hM1
  rw [hBz] at hb1 hs hmp
  have hz1 := hb1.size
  have hl1 := hS1.lt
  clear q1 hM
  replace q2 := hide q2
  replace hM1 := hide hM1
  replace hb1 := hide hb1
  go_wp2_with fail
  refine (q2.out).mono ?_
  rintro e w2 ⟨rfl, lo, hi, n, nv, hS2, hn2, hlo, hk2⟩
  have hM2 := StC.maxAt hM1.out hk2 (fun e => by rcases e with e | e; exact hmx.1 e.symm; exact hmx.2 e.symm)
  have hb2 := below_step hb1.out hk2 (by omega) (fun i hi e => by omega)
  have q3 := begin_any hS2 B (by have := hb2.size; omega)
  have hl2 := hS2.lt
  have hh2 := hS2.hh
  have hz2 : w1.heap.size ≤ w2.heap.size := hk2.size
  clear q2 hM1 hb1 hk2 hS1
  replace q3 := hide q3
  replace hM2 := hide hM2
  replace hb2 := hide hb2
  replace hS2 := hide hS2
  go_wp2_with fail
  refine (q3.out).mono ?_
  rintro e w3 ⟨rfl, hx3, hb3⟩
  have hS3 := hS2.out.below hb3
  have q4 := begin_any hS3 B (by have := hb3.size; have := hb2.out.size; omega)
  obtain ⟨x, hx⟩ : ∃ x, w2.heap.size = x := ⟨_, rfl⟩
  have hM3 := hM2.out.below hb3
  have hB3 := hb2.out.trans (hb3.mono (by have := hb2.out.size; omega))
  have hz3 := hb3.size
  rw [hx] at hx3 hz2 hh2 hl2 hz3
  have hxl := hx3.lt
  clear q3 hM2 hb2 hS2 hb3
  replace q4 := hide q4
  replace hM3 := hide hM3
  replace hB3 := hide hB3
  replace hx3 := hide hx3
  replace hS3 := hide hS3
  go_wp2_with fail
  refine (q4.out).mono ?_
  rintro e w4 ⟨rfl, hy4, hb4⟩
  have hS4 := hS3.out.below hb4
  have hx4 := hx3.out.below hb4
  obtain ⟨y, hy⟩ : ∃ y, w3.heap.size = y := ⟨_, rfl⟩
  have hM4 := hM3.out.below hb4
  have hB4 := hB3.out.trans (hb4.mono (by have := hB3.out.size; omega))
  have hz4 := hb4.size
  rw [hy] at hy4 hz4 hxl
  have hyl := hy4.lt
  have hxl4 := hx4.lt
  clear q4 hM3 hB3 hx3 hS3 hb4
  have q5 := xload_any _ tB w4 hx4
  rw [show addT ⟨1, [], false⟩ ⟨tB, [], 0⟩ = (⟨1, [⟨tB, [], 0⟩], false⟩, 0) from rfl] at q5
  unfold tB str at q5
  replace q5 := hide q5
  replace hM4 := hide hM4
  replace hB4 := hide hB4
  replace hy4 := hide hy4
  replace hS4 := hide hS4
  go_wp2_with fail
  refine (q5.out).mono ?_
  rintro e w5 ⟨rfl, h5⟩
  obtain ⟨lx, hx5, hlx, hk5⟩ := h5.open
  replace hx5 : TxC w5 B x s lx ⟨1, [⟨tB, [], 0⟩], false⟩ := hx5
  have hS5 := hS4.out.keptS hk5 (by omega) (by omega) (fun k h1 h2 e => by omega)
  have hy5 := hy4.out.keptS hk5 (by omega) (fun k hk => by cases hk)
  have hM5 := StC.maxAt hM4.out hk5 (fun e => hx4.max hM4.out e.symm)
  have hB5 := below_step hB4.out hk5 (by have := hB4.out.size; omega) (fun i hi e => by omega)
  have hz5 := hk5.size
  clear q5 hM4 hB4 hy4 hS4 h5 hk5 hx4
  have q6 := xload_any _ tC w5 hy5
  rw [show addT ⟨1, [], false⟩ ⟨tC, [], 0⟩ = (⟨1, [⟨tC, [], 0⟩], false⟩, 0) from rfl] at q6
  unfold tC str at q6
  have hym := hy5.max hM5
  have hl5 := hS5.lt
  have hxl5 := hx5.lt
  replace q6 := hide q6
  replace hM5 := hide hM5
  replace hB5 := hide hB5
  replace hS5 := hide hS5
  replace hx5 := hide hx5
  go_wp2_with fail
  refine (q6.out).mono ?_
  rintro e w6 ⟨rfl, h6⟩
  obtain ⟨ly, hy6, hly, hk6⟩ := h6.open
  replace hy6 : TxC w6 B y s ly ⟨1, [⟨tC, [], 0⟩], false⟩ := hy6
  have hS6 := hS5.out.keptS hk6 (by omega) (by omega) (fun k h1 h2 e => by omega)
  have hx6 := hx5.out.keptS hk6 (by omega) (fun k hk e => by have := hlx k hk; omega)
  have hM6 := StC.maxAt hM5.out hk6 (fun e => hym e.symm)
  have hB6 := below_step hB5.out hk6 (by have := hB5.out.size; omega) (fun i hi e => by omega)
  have hz6 := hk6.size
  clear q6 hM5 hB5 hy5 hS5 h6 hk6 hx5
  have q7 := commit_any _ _ w6 hS6 hx6 (by omega) (by simp [big]) (by simp [big]; omega) hM6 (fun c hc => by rw [List.mem_singleton] at hc; subst hc; exact ⟨by decide, by unfold maxLen; decide⟩)
  rw [hB.out] at q7
  have hxm := hx6.max hM6
  have hsm := hS6.max hS6.now.ptr hM6
  have hl6 := hS6.lt
  have hyl6 := hy6.lt
  replace q7 := hide q7
  replace hM6 := hide hM6
  replace hB6 := hide hB6
  replace hy6 := hide hy6
  go_wp2_with fail
  refine (q7.out).mono ?_
  rintro e w7 ⟨rfl, hx7, hk7, mp7, lo7, hi7, n7, nv7, hS7, hn7, hlo7, hmp7⟩
  have hy7 := hy6.out.keptS hk7 (by omega) (fun k hk e => by have := hly k hk; omega)
  have hM7 := StC.maxAt hM6.out hk7 (fun e => by rcases e with e | e; exact hxm e.symm; exact hsm.1 e.symm)
  have hB7 := below_step hB6.out hk7 (by have := hB6.out.size; omega) (fun i hi e => by omega)
  have hz7 := hk7.size
  clear q7 hM6 hB6 hy6 hk7 hS6 hx6 hx7
  have q8 := commit_any _ _ w7 hS7 hy7 (by dsimp only [List.length] at *; omega) (by simp [big]) (by simp only [List.length] at hn7 ⊢; simp [big]; omega) hM7 (fun c hc => by rw [List.mem_singleton] at hc; subst hc; exact ⟨by decide, by unfold maxLen; decide⟩)
  rw [hC.out] at q8
  have hB7z := hB7.size
  replace q8 := hide q8
  replace hB7 := hide hB7
  go_wp2_with fail
  refine (q8.out).mono ?_
  rintro e w8 ⟨rfl, hy8, hk8, mp8, lo8, hi8, n8, nv8, hS8, -, -, -⟩
  have hB8 := below_step hB7.out hk8 (by omega) (fun i hi e => by omega)
  clear q8 hB7 hy7 hM7 hS7 hk8 hy8
  obtain ⟨x8, e8, hV8⟩ : ∃ x, nv8 = .pointer (some ⟨x, 0, none⟩) ∧ VIn w8 lo8 hi8 x cB := hS8.now
  subst e8
  obtain ⟨⟨A1, A2, A3, k1, k2, k3, t, hb0, hx0, hcv, hT⟩⟩ := hV8.at
  have g1 := gen_any hS8
  have g2 := now_any hS8
  have qf := find_any cB.nodes [98] lo8 t w8 hT
  rw [hF.out] at qf
  unfold str at qf
  have c11 := blk_cell hb0 11
  unfold Conf18.cfC at c11
  clear hS8 hV8 hb0 hcv hT hC hF hA hB
  replace g1 := hide g1
  replace g2 := hide g2
  replace qf := hide qf
  replace hB8 := hide hB8
  go_wp2_with fail
  refine (g1.out).mono ?_
  rintro e w8 ⟨rfl, rfl⟩
  clear g1
  go_wp2_with fail
  refine (g2.out).mono ?_
  rintro e w8 ⟨rfl, rfl⟩
  go_wp2_with fail
  refine (g2.out).mono ?_
  rintro e w8 ⟨rfl, rfl⟩
  clear g2
  go_wp2_with fail
  refine (qf.out).mono ?_
  rintro e w9 ⟨rfl, hb9⟩
  have hB9 : Below w.heap.size w w9 := by rw [hBz]; exact hB8.out.trans (hb9.mono (by have := hB8.out.size; omega))
  clear qf hB8 hb9 c11
  replace hB9 := hide hB9
  go_wp2_with fail
  go_ret
  exact ⟨rfl, hB9.out⟩
end Store20
end Go.Proofs.YtcpokkkdmenmgaaGreatDoor
