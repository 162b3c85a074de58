/- SnapNobody, walked. Condition: a setup whose flows' seed is a number of 64 bits. -/
import Derived.Test.YtdneeablghlemaaGreatDoorQSnapNobody6
import Derived.Test.YtdneeablghlemaaGreatDoorQSnapNobody1
namespace Go.Proofs.YtdneeablghlemaaGreatDoor
open Go.RowKit Go.ChangeShapes Go.WideShapes Go.ChangeAt Go.Deep
namespace Mach33
open Snap (OpD IsO OkD cells okAll info_op ops encL row_isO bytes_any)
set_option maxRecDepth 20000 in
set_option maxHeartbeats 4000000 in
theorem awake44 (w : World) : Calls Tryz.prog 8 #[] w fun e w' => e = .returned (.bool true) ∧ Below w.heap.size w w' := by
  have hB := bytes_any none 0 0 [] w (IsO.nil _ _ _) (Nat.le_refl _) (by unfold maxLen; omega) (by omega)
  have hq : ((str (encL (ops []))).toList == [68, 83, 84, 49, 0, 0, 0, 0]) = true := by
    rw [show (str (encL (ops []))).toList = encL (ops []) from ByteArray.toList_mk _]
    rfl
  replace hB := hide hB
  go_enter Tryz.func8, Tryz.ntmps8
  go_wp2_with fail
  refine hB.out.mono ?_
  rintro e w1 ⟨v, he, hown, hb⟩
  rw [if_pos (by rfl)] at he hown
  subst he
  obtain ⟨A, c, rfl, _, _, hi⟩ := hown.form
  have hst := hi.str c
  clear hown
  generalize encL (ops []) = bs at hq hst hi ⊢
  replace hi := hide hi
  replace hb := hide hb
  go_wp2_with fail
  go_ret
  exact ⟨rfl, hb.out⟩
theorem wpl_lit_om {w : World} {t : TypeId} {ops : Array Oper} {rest : List Oper} {o : Oper} {a : Act} {Q : Exit → Act → World → Prop} (hgd : o.guard = none) (s x : Operand)
    (ho : o.op = .call { callee := .builtin .append, args := #[s, x], argTypes := #[31, 31] })
    (base : Nat) (v : Value) (n : Nat) (es : List OpD) (e : OpD) (vals : List Value) (c : Nat) (hs : a.eval s = v) (hx : a.eval x = .slice (some ⟨w.heap.size, 0, none⟩) 1 c) (hv : vals = e.cs) (hown : w.ownsRow base 42 6 v n (cells es)) (hbase : base ≤ w.heap.size) (hb : n ≤ 1099511627776)
    (h : ∀ v' w', w'.ownsRow base 42 6 v' (n + 1) (cells (es ++ [e])) → w.grownBy w' v.ownBlock → (v'.ownBlock = v.ownBlock ∨ ∃ k, v'.ownBlock = some k ∧ w.heap.size ≤ k) → wpList Tryz.prog ops Q rest (a.put o.dst v') w') : wpList Tryz.prog ops Q (o :: rest) a (w.alloc (.cells vals.toArray t)) := by
  subst hv
  obtain ⟨i9, hi9, hiz, his, hib9⟩ := info_parts info_op
  refine wpl_append (w.alloc (.cells e.cs.toArray t)) hgd s x 31 ho base 42 i9 _ 6 72 Tryz.underlying31 hi9 hiz his hib9 rfl (by omega) v n (cells es) hs (World.ownsRow.alloc hown _) (w.heap.size + 1) (some ⟨w.heap.size, 0, none⟩) 1 c e.cs hx (IsV.lit w t e.cs c 1 rfl) ?_ (by unfold maxLen; omega) (by omega) (by simp; omega) fun v' w' h1 h2 h3 => ?_
  · intro u hu
    simp only [OpD.cs, List.mem_cons, List.not_mem_nil, or_false] at hu
    rcases hu with rfl | rfl | rfl | rfl | rfl | rfl <;> rfl
  · refine h v' w' (by simpa [cells] using h1) (grown_alloc_left h2) ?_
    rcases moved_mk' h3 with e | ⟨k, e, hk⟩
    · exact .inl e
    · exact .inr ⟨k, e, by simp at hk; omega⟩
theorem row_ks {w w' : World} {base size n : Nat} {e : TypeId} {v : Value} {xs : List Value} {P : Nat → Prop} (h : w.ownsRow base e size v n xs) (hk : KeptS w.heap.size P w w') (hp : ∀ b cs, v.ownBlock = some b → w.heap[b]? = some (.cells cs e (0, 0)) → ¬ P b) : w'.ownsRow base e size v n xs := by
  refine ⟨h.1, h.2.imp id ?_⟩
  rintro ⟨g, cap, cur, h1, h2, h3, h4⟩
  exact ⟨g, cap, cur, h1, h2, (hk.block g (lt_of_blk h3) (hp g cur (by rw [h1]; rfl) h3)).trans h3, h4⟩
/-- A diary stays where a row of ops grows that is none of its own. -/
theorem DiC.grown {w w' : World} {base d L n : Nat} {lv u : Value} {xs : List Value} (h : DiC w base d lv L) (hu : w.ownsRow base 42 6 u n xs) (hg : w.grownBy w' u.ownBlock) (ha : ∀ k, u.ownBlock = some k → lv.ownBlock ≠ some k) : DiC w' base d lv L := by
  have hk : KeptS w.heap.size (fun k => u.ownBlock = some k) w w' := ⟨hg.os, hg.tape, hg.output, hg.size, fun k hk hn => hg.block k hk (fun e => hn e.symm)⟩
  obtain ⟨⟨m, s, h1, h2⟩, ⟨ys, h3⟩, h4⟩ := h
  have hx : ∀ (k : Nat) (cs : Array Value) (T : TypeId), w.heap[k]? = some (.cells cs T (0, 0)) → T ≠ 42 → ¬ u.ownBlock = some k := fun k cs T hc hne hP => by
    rcases row_not_x hu hc hne with e | e
    · rw [e] at hP; cases hP
    · exact e hP
  refine ⟨⟨m, s, (hk.block d (lt_of_blk h1) (hx d _ _ h1 (by decide))).trans h1, h2.kept hk (fun k cs T hc hT => hx k cs T hc (by rcases hT with rfl | rfl | rfl <;> decide))⟩, ⟨ys, row_ks h3 hk fun b cs hb _ hP => ha b hP hb⟩, h4⟩
theorem ok7 (n : Nat) : okAll (List.replicate n E7) = true := by
  unfold okAll
  rw [List.all_eq_true]
  intro e he
  obtain rfl := List.eq_of_mem_replicate he
  exact decide_eq_true (by unfold E7 Snap.okOp; decide)
abbrev zdA : Array Value := #[.pointer none, .int .i64 0, .int .u64 0, .int .i64 0, .int .i64 0, .int .i64 0, .int .i64 0, .int .i64 0, .int .i64 0, .int .i64 0, .int .i64 0, .slice none 0 0]
set_option maxRecDepth 20000 in
set_option maxHeartbeats 16000000 in
theorem nobody_walk (s : Su) (n : Int) (w : World) : Calls Tryz.prog 3 #[.agg (arrS s), .int .i64 n] w fun e w' => e = .returned (.bool true) ∧ Below w.heap.size w w' := by
  obtain ⟨w1, hw1⟩ : ∃ w1, w.alloc (.cells (arrS s) 28) = w1 := ⟨_, rfl⟩
  have hb1 : Below w.heap.size w w1 := hw1 ▸ (Below.refl _ _).alloc (Nat.le_refl _) _
  have hg1 : w1.heap[w.heap.size]? = some (.cells (arrS s) 28 (0, 0)) := hw1 ▸ blk_new _ _ _
  have hz1 : w1.heap.size = w.heap.size + 1 := by rw [← hw1]; simp
  obtain ⟨w2, hw2⟩ : ∃ w2, w1.alloc (.cells zdA 33) = w2 := ⟨_, rfl⟩
  have hb2 : Below w1.heap.size w1 w2 := hw2 ▸ (Below.refl _ _).alloc (Nat.le_refl _) _
  have hg2 : w2.heap[w1.heap.size]? = some (.cells zdA 33 (0, 0)) := hw2 ▸ blk_new _ _ _
  have hz2 : w2.heap.size = w1.heap.size + 1 := by rw [← hw2]; simp
  have hs2 := blk_on hb2 hg1
  have hB2 := hb1.trans (hb2.mono (by omega))
  obtain ⟨z, hz⟩ : ∃ z, w.heap.size = z := ⟨_, rfl⟩
  rw [hz] at hB2 hz1 hs2
  rw [hz1] at hg2 hz2
  rw [hz]
  have qz : ∀ w', Below (z + 2) w2 w' → Calls Tryz.prog 17 #[.pointer (some ⟨z + 1, 0, none⟩)] w' fun e w'' => e = .returned (.bool true) ∧ w'' = w' := fun w' hb => dnone_e (v := .pointer none) (b := true) (blk_cell ((hb.block (z + 1) (by omega)).trans hg2) 0) (.inl ⟨rfl, rfl⟩)
  have lr : ∀ w', Below (z + 2) w2 w' → w'.rangeAt z 0 (suL s) := fun w' hb => blk_range (cs := arrS s) ((hb.block z (by omega)).trans hs2)
  have hC : Below (z + 2) w2 w2 := Below.refl _ _
  have hzz : z + 2 ≤ w2.heap.size := by omega
  clear hb1 hg1 hb2 hg2 hs2 hz2
  replace qz := hide qz
  replace lr := hide lr
  replace hB2 := hide hB2
  replace hC := hide hC
  go_enter Tryz.func3, Tryz.ntmps3
  go_wp2_with fail
  clear hw1 hz1
  refine ((act_none _ rfl _ _ (fun w' _ => dnone_n w'))).mono ?_
  rintro e w3 ⟨rfl, hb3⟩
  clear hw2
  have hC3 := hC.out.trans (hb3.mono hzz)
  have hz3 := hb3.size
  clear hC hb3
  replace hC3 := hide hC3
  go_wp2_with fail
  generalize hw4 : World.alloc w3 _ = w4
  have hb4 : Below w3.heap.size w3 w4 := by rw [← hw4]; exact (Below.refl _ _).alloc (Nat.le_refl _) _
  have hC4 := hC3.out.trans (hb4.mono (by omega))
  have hz4 := hb4.size
  clear hw4 hb4 hC3
  refine ((act_none _ rfl _ _ (fun w' hb => qz.out w' (hC4.trans (hb.mono (by omega)))))).mono ?_
  rintro e w5 ⟨rfl, hb5⟩
  have hC5 := hC4.trans (hb5.mono (by omega))
  have hz5 := hb5.size
  clear hC4 hb5
  replace hC5 := hide hC5
  go_wp2_with fail
  generalize hw6 : World.alloc w5 _ = w6
  have hb6 : Below w5.heap.size w5 w6 := by rw [← hw6]; exact (Below.refl _ _).alloc (Nat.le_refl _) _
  have hC6 := hC5.out.trans (hb6.mono (by omega))
  have hz6 := hb6.size
  clear hw6 hb6 hC5
  refine ((ops_none _ _ (dnone_n _))).mono ?_
  rintro e w6 ⟨rfl, rfl⟩
  have q6 := qz.out _ hC6
  replace hC6 := hide hC6
  replace q6 := hide q6
  go_wp2_with fail
  refine ((ops_none _ _ q6.out)).mono ?_
  rintro e w6 ⟨rfl, rfl⟩
  clear q6
  go_upto_region 7 with fail
  apply wp_region_lit
  refine wpList_load_mid rfl 28 (.tmp 2) rfl z 0 rfl (suL s) _ (lr.out _ hC6.out) Tryz.underlying28 rfl size_su ?_
  refine wpList_plain rfl fun K hK => ?_
  go_simp
  refine ((dnew_all s _)).mono ?_
  rintro e w7 ⟨hend, hb7⟩
  have hC7 := hC6.out.trans (hb7.mono (by omega))
  have hz7 := hb7.size
  have hB7 := hB2.out.trans (hC7.mono (by omega))
  clear hC6 hb7 qz
  have hcase : n < 2040 ∨ 2060 < n ∨ (¬ n < 2040 ∧ ¬ 2060 < n) := by omega
  replace hC7 := hide hC7
  replace hB7 := hide hB7
  rcases hend with ⟨hok, d, rfl, hD⟩ | ⟨hok, rfl⟩
  case inr =>
    clear hok
    rcases hcase with t1 | t1 | ⟨t1, t2⟩
    all_goals
      go_simp
      refine hK _ _ ?_
      clear hK K
      iterate 5 (refine wpList_step fun K hK => ?_; go_simp; refine hK _ _ ?_; clear hK K)
      refine wpList_nil ?_
      go_simp
      go_wp2_with fail
      refine ((awake44 _)).mono ?_
      rintro e w8 ⟨rfl, hb8⟩
      have hB8 := hB7.out.trans (hb8.mono (by have := hB7.out.size; omega))
      clear hb8
      replace hB8 := hide hB8
      go_wp2_with fail
      go_ret
      exact ⟨rfl, hB8.out⟩
  rcases hcase with t1 | t1 | ⟨t1, t2⟩
  case inr.inr =>
    obtain ⟨n, rfl⟩ : ∃ k : Nat, n = (k : Int) := ⟨n.toNat, by omega⟩
    have hD7 : DiC w7 (z + 2) d (.slice none 0 0) 0 := ⟨hD.blk, ⟨[], World.ownsRow_nil _ _ _ _⟩, by have := hD.hb; omega⟩
    clear hD
    replace hok := hide hok
    replace hD7 := hide hD7
    go_simp
    refine hK _ _ ?_
    clear hK K
    iterate 5 (refine wpList_step fun K hK => ?_; go_simp; refine hK _ _ ?_; clear hK K)
    refine wpList_nil ?_
    go_simp
    go_wp2_with fail
    go_loopw [13, 14] (fun u iv wr => ∃ (j : Nat) (lv : Value), j ≤ n ∧ iv = .int .i64 ((j + 1 : Nat) : Int) ∧ DiC wr (z + 2) d lv (min j 2048) ∧ wr.ownsRow (z + 2) 42 6 u j (cells (List.replicate j E7)) ∧ (∀ k, u.ownBlock = some k → lv.ownBlock ≠ some k) ∧ Below (z + 2) w2 wr) (fun _ iv _ => n + 1 - (intOf iv).toNat)
    case atStart => exact ⟨0, _, by omega, rfl, hD7.out, World.ownsRow_nil _ _ _ 6, fun k hk => (by cases hk), hC7.out⟩
    case round =>
      obtain ⟨j, lv, hj, rfl, hD, hu, hap, hC⟩ := hrel
      have zr : z + 2 ≤ wr.heap.size := Nat.le_trans hzz hC.size
      by_cases hlt : j < n
      · have t3 : ((j + 1 : Nat) : Int) ≤ (n : Int) := by omega
        by_cases h8 : j < 2048
        · have t4 : ((j + 1 : Nat) : Int) ≤ 2048 := by omega
          have t5 : ¬ (2048 : Int) < ((j + 1 : Nat) : Int) := by omega
          rw [show min j 2048 = j by omega] at hD
          have qa := act_e wr hD h8
          replace hD := hide hD
          replace hu := hide hu
          replace hap := hide hap
          replace hC := hide hC
          replace qa := hide qa
          go_wp2_with fail
          refine (qa.out).mono ?_
          rintro e w8 ⟨rfl, lv8, hD8, hmv, hk8⟩
          have hu8 := row_ks hu.out hk8 (fun b cs hb hc hP => by
            rcases hP with rfl | hP
            · obtain ⟨m, s', h1, -⟩ := hD.out.blk
              rcases row_not_x hu.out h1 (by decide) with e | e
              · rw [e] at hb; cases hb
              · exact e hb
            · exact hap.out b hb hP)
          have hap8 : ∀ k, Value.ownBlock _ = some k → lv8.ownBlock ≠ some k := fun k hk e => by
            rcases hmv with e2 | ⟨k2, e2, hk2⟩
            · exact hap.out k hk (e2 ▸ e)
            · rw [e2] at e
              cases e
              have := (World.ownsRow.lt hu.out _ hk).2
              omega
          have hC8 := hC.out.trans (below_act hD.out hk8)
          have z8 : z + 2 ≤ w8.heap.size := Nat.le_trans hzz hC8.size
          rw [show j + 1 = min (j + 1) 2048 by omega] at hD8
          clear qa hD hu hap hC hmv hk8
          replace hD8 := hide hD8
          replace hu8 := hide hu8
          replace hap8 := hide hap8
          replace hC8 := hide hC8
          go_upto_region 17 with fail
          generalize hv8 : World.alloc w8 _ = v8
          have hbv : Below w8.heap.size w8 v8 := by rw [← hv8]; exact (Below.refl _ _).alloc (Nat.le_refl _) _
          have hDv := hD8.out.on hbv
          have huv := row_on hu8.out hbv
          have hCv := hC8.out.trans (hbv.mono z8)
          have zv : z + 2 ≤ v8.heap.size := Nat.le_trans z8 hbv.size
          clear hv8 hbv hD8 hu8 hC8
          replace hDv := hide hDv
          replace huv := hide huv
          replace hCv := hide hCv
          apply wp_region_lit
          iterate 3 (refine wpList_plain rfl fun K hK => ?_; go_simp; refine hK _ _ ?_; clear hK K)
          refine wpl_lit_om rfl (.tmp 91) (.tmp 93) rfl (z + 2) _ j (List.replicate j E7) E7 [.int .i64 7, .slice none 0 0, .string ⟨#[]⟩, .int .i64 0, .int .i64 0, .bool false] 1 rfl rfl rfl huv.out zv (by omega) ?_
          intro v9 w9 hown9 hg9 hmv9
          have hD9 := hDv.out.grown huv.out hg9 hap8.out
          have hC9 := hCv.out.trans (Snap.row_below huv.out hg9 zv)
          have hap9 : ∀ k, v9.ownBlock = some k → lv8.ownBlock ≠ some k := fun k hk e => by
            rcases hmv9 with e2 | ⟨k2, e2, hk2⟩
            · exact hap8.out k (e2 ▸ hk) e
            · rw [e2] at hk
              cases hk
              obtain ⟨ys, hy⟩ := hDv.out.row
              have := (World.ownsRow.lt hy _ e).2
              omega
          rw [← List.replicate_succ'] at hown9
          clear hDv huv hap8 hCv hg9 hmv9
          replace hown9 := hide hown9
          replace hD9 := hide hD9
          replace hC9 := hide hC9
          replace hap9 := hide hap9
          go_wp2_with fail
          exact ⟨⟨j + 1, lv8, by omega, by go_num, hD9.out, hown9.out, hap9.out, hC9.out⟩, by simp [intOf]; omega⟩
        · have t4 : ¬ ((j + 1 : Nat) : Int) ≤ 2048 := by omega
          have t5 : (2048 : Int) < ((j + 1 : Nat) : Int) := by omega
          rw [show min j 2048 = 2048 by omega] at hD
          have qa := act_full wr hD
          replace hD := hide hD
          replace hu := hide hu
          replace hap := hide hap
          replace hC := hide hC
          replace qa := hide qa
          go_wp2_with fail
          refine (qa.out).mono ?_
          rintro e w8 ⟨rfl, hb8⟩
          have hu8 := row_on hu.out hb8
          obtain ⟨lv8, hlv8⟩ : ∃ v, lv = v := ⟨_, rfl⟩
          have hap8 := hap.out
          have hD8 := hD.out.on hb8
          rw [hlv8] at hap8 hD8
          have hC8 := hC.out.trans (hb8.mono zr)
          have z8 : z + 2 ≤ w8.heap.size := Nat.le_trans hzz hC8.size
          rw [show 2048 = min (j + 1) 2048 by omega] at hD8
          clear qa hD hu hap hC hb8 hlv8
          replace hD8 := hide hD8
          replace hu8 := hide hu8
          replace hap8 := hide hap8
          replace hC8 := hide hC8
          go_upto_region 17 with fail
          generalize hv8 : World.alloc w8 _ = v8
          have hbv : Below w8.heap.size w8 v8 := by rw [← hv8]; exact (Below.refl _ _).alloc (Nat.le_refl _) _
          have hDv := hD8.out.on hbv
          have huv := row_on hu8.out hbv
          have hCv := hC8.out.trans (hbv.mono z8)
          have zv : z + 2 ≤ v8.heap.size := Nat.le_trans z8 hbv.size
          clear hv8 hbv hD8 hu8 hC8
          replace hDv := hide hDv
          replace huv := hide huv
          replace hCv := hide hCv
          apply wp_region_lit
          iterate 3 (refine wpList_plain rfl fun K hK => ?_; go_simp; refine hK _ _ ?_; clear hK K)
          refine wpl_lit_om rfl (.tmp 91) (.tmp 93) rfl (z + 2) _ j (List.replicate j E7) E7 [.int .i64 7, .slice none 0 0, .string ⟨#[]⟩, .int .i64 0, .int .i64 0, .bool false] 1 rfl rfl rfl huv.out zv (by omega) ?_
          intro v9 w9 hown9 hg9 hmv9
          have hD9 := hDv.out.grown huv.out hg9 hap8.out
          have hC9 := hCv.out.trans (Snap.row_below huv.out hg9 zv)
          have hap9 : ∀ k, v9.ownBlock = some k → lv8.ownBlock ≠ some k := fun k hk e => by
            rcases hmv9 with e2 | ⟨k2, e2, hk2⟩
            · exact hap8.out k (e2 ▸ hk) e
            · rw [e2] at hk
              cases hk
              obtain ⟨ys, hy⟩ := hDv.out.row
              have := (World.ownsRow.lt hy _ e).2
              omega
          rw [← List.replicate_succ'] at hown9
          clear hDv huv hap8 hCv hg9 hmv9
          replace hown9 := hide hown9
          replace hD9 := hide hD9
          replace hC9 := hide hC9
          replace hap9 := hide hap9
          go_wp2_with fail
          exact ⟨⟨j + 1, lv8, by omega, by go_num, hD9.out, hown9.out, hap9.out, hC9.out⟩, by simp [intOf]; omega⟩
      · obtain rfl : n = j := by omega
        have t3 : ¬ ((n + 1 : Nat) : Int) ≤ (n : Int) := by omega
        obtain ⟨A, c, hv, hnc, hcm, hx⟩ := row_isO hu (B := z + 2) zr (fun e he => by obtain rfl := List.eq_of_mem_replicate he; exact e7_ok _ _)
        subst hv
        clear hu hap hD
        replace hC := hide hC
        replace hx := hide hx
        by_cases h8 : 2048 < n
        · have t4 : (2048 : Int) < (n : Int) := by omega
          have qb := bytes_long A n c wr h8
          replace qb := hide qb
          go_wp2_with fail
          refine (qb.out).mono ?_
          rintro e wr ⟨rfl, rfl⟩
          clear qb
          have qg := again_e s A n c wr hx.out (by omega)
          unfold AgEnd at qg
          rw [hok.out, if_pos rfl, if_pos h8] at qg
          replace qg := hide qg
          go_upto_region 19 with fail
          apply wp_region_lit
          refine wpList_load_mid rfl 28 (.tmp 2) rfl z 0 rfl (suL s) _ (lr.out _ hC.out) Tryz.underlying28 rfl size_su ?_
          iterate 1 (refine wpList_plain rfl fun K hK => ?_; go_simp; refine hK _ _ ?_; clear hK K)
          refine wpList_plain rfl fun K hK => ?_
          go_simp
          refine ((qg.out)).mono ?_
          rintro e w9 ⟨⟨v9, rfl⟩, hb9⟩
          have hB9 := hB2.out.trans ((hC.out.trans (hb9.mono zr)).mono (by omega))
          clear hb9 qg
          replace hB9 := hide hB9
          go_simp
          refine hK _ _ ?_
          clear hK K
          iterate 5 (refine wpList_step fun K hK => ?_; go_simp; refine hK _ _ ?_; clear hK K)
          refine wpList_nil ?_
          go_simp
          go_wp2_with fail
          refine ((awake44 _)).mono ?_
          rintro e w10 ⟨rfl, hb10⟩
          have hB10 := hB9.out.trans (hb10.mono (by have := hB9.out.size; omega))
          clear hb10
          replace hB10 := hide hB10
          go_wp2_with fail
          go_ret
          refine ⟨ret_bool ?_, hB10.out⟩
          first
            | rfl
            | (simp; done)
            | (simp; omega)
        · have t4 : ¬ (2048 : Int) < (n : Int) := by omega
          have qb := bytes_any A n c (List.replicate n E7) wr hx.out hnc hcm (by omega)
          unfold Snap.BytesEnd at qb
          rw [ok7 n, if_pos rfl] at qb
          replace qb := hide qb
          go_wp2_with fail
          refine (qb.out).mono ?_
          rintro e w8 ⟨v8, rfl, -, hb8⟩
          have hx8 := hx.out.on hb8
          have hC8 := hC.out.trans (hb8.mono zr)
          have z8 : z + 2 ≤ w8.heap.size := Nat.le_trans hzz hC8.size
          clear qb hb8 hx hC
          replace hC8 := hide hC8
          replace hx8 := hide hx8
          have qg := again_e s A n c w8 hx8.out (by omega)
          unfold AgEnd at qg
          rw [hok.out, if_pos rfl, if_neg h8] at qg
          replace qg := hide qg
          go_upto_region 19 with fail
          apply wp_region_lit
          refine wpList_load_mid rfl 28 (.tmp 2) rfl z 0 rfl (suL s) _ (lr.out _ hC8.out) Tryz.underlying28 rfl size_su ?_
          iterate 1 (refine wpList_plain rfl fun K hK => ?_; go_simp; refine hK _ _ ?_; clear hK K)
          refine wpList_plain rfl fun K hK => ?_
          go_simp
          refine ((qg.out)).mono ?_
          rintro e w9 ⟨⟨v9, rfl⟩, hb9⟩
          have hB9 := hB2.out.trans ((hC8.out.trans (hb9.mono z8)).mono (by omega))
          clear hb9 qg
          replace hB9 := hide hB9
          go_simp
          refine hK _ _ ?_
          clear hK K
          iterate 5 (refine wpList_step fun K hK => ?_; go_simp; refine hK _ _ ?_; clear hK K)
          refine wpList_nil ?_
          go_simp
          go_wp2_with fail
          refine ((awake44 _)).mono ?_
          rintro e w10 ⟨rfl, hb10⟩
          have hB10 := hB9.out.trans (hb10.mono (by have := hB9.out.size; omega))
          clear hb10
          replace hB10 := hide hB10
          go_wp2_with fail
          go_ret
          refine ⟨ret_bool ?_, hB10.out⟩
          first
            | rfl
            | (simp; done)
            | (simp; omega)
  all_goals
    go_simp
    refine hK _ _ ?_
    clear hK K
    iterate 5 (refine wpList_step fun K hK => ?_; go_simp; refine hK _ _ ?_; clear hK K)
    refine wpList_nil ?_
    go_simp
    go_wp2_with fail
    refine ((awake44 _)).mono ?_
    rintro e w8 ⟨rfl, hb8⟩
    have hB8 := hB7.out.trans (hb8.mono (by have := hB7.out.size; omega))
    clear hb8
    replace hB8 := hide hB8
    go_wp2_with fail
    go_ret
    exact ⟨rfl, hB8.out⟩
end Mach33
end Go.Proofs.YtdneeablghlemaaGreatDoor
/- SnapNobody for what a row hands over. No condition. -/
namespace Go.Proofs.YtdneeablghlemaaGreatDoor
open Go.RowKit Go.ChangeShapes Go.WideShapes Go.ChangeAt Go.Deep
namespace Mach33
theorem nat_of_u64 {x : Int} (h : (Lit.int .u64 x).wf = true) : ∃ k : Nat, x = (k : Int) := by
  have h1 := u64_wf h
  exact ⟨x.toNat, by omega⟩
theorem nobody_row (m sd a b c d e f g h n : Int) (w : World) (_ : (Lit.int .i64 m).wf = true) (hs : (Lit.int .u64 sd).wf = true) (_ : (Lit.int .i64 a).wf = true) (_ : (Lit.int .i64 b).wf = true) (_ : (Lit.int .i64 c).wf = true) (_ : (Lit.int .i64 d).wf = true) (_ : (Lit.int .i64 e).wf = true) (_ : (Lit.int .i64 f).wf = true) (_ : (Lit.int .i64 g).wf = true) (_ : (Lit.int .i64 h).wf = true) (_ : (Lit.int .i64 n).wf = true) :
    Calls Tryz.prog 3 #[.agg #[.int .i64 m, .int .u64 sd, .int .i64 a, .int .i64 b, .int .i64 c, .int .i64 d, .int .i64 e, .int .i64 f, .int .i64 g, .int .i64 h], .int .i64 n] w fun e w' => e = .returned (.bool true) ∧ Below w.heap.size w w' := by
  obtain ⟨s, rfl⟩ := nat_of_u64 hs
  exact nobody_walk ⟨m, s, ⟨a, b, c, d⟩, ⟨e, f, g, h⟩⟩ n w
end Mach33
end Go.Proofs.YtdneeablghlemaaGreatDoor
