/- addr: V4, V6, Bits; Compare, and the law's less. No condition. -/
import Derived.Test.YtccmbnaakdffaaaDoorQAddrParses8
import Derived.Test.YtccmbnaakdffaaaDoorQAddrParses9
namespace Go.Proofs.YtccmbnaakdffaaaDoor
open Go.RowKit Go.ChangeShapes Go.WideShapes Go.ChangeAt Go.Deep
namespace Addr05
set_option maxRecDepth 20000 in
set_option maxHeartbeats 8000000 in
theorem V4_any (n : Nat) (hn : n < 4294967296) (w : World) :
    Calls Tryd.prog 19 #[.int .u32 (n : Int)] w fun e w' => e = .returned (.agg #[.bool false, .int .u64 0, .int .u64 (n : Int)]) ∧ Below w.heap.size w w' := by
  have wn : IntKind.u64.wrap (n : Int) = (n : Int) := wrapsu64 _ (by omega) (by omega)
  have hB : Below w.heap.size w (w.alloc (.cells #[.bool false, .int .u64 0, .int .u64 0] 24)) := (Below.refl _ _).alloc (Nat.le_refl _) _
  have hg : (w.alloc (.cells #[.bool false, .int .u64 0, .int .u64 0] 24)).heap[w.heap.size]? = some (.cells #[.bool false, .int .u64 0, .int .u64 0] 24 (0, 0)) := blk_new _ _ _
  replace hB := hide hB
  replace hg := hide hg
  go_enter Tryd.func19, Tryd.ntmps19
  go_upto_region 1 with fail
  apply wp_region_lit
  iterate 3 (refine wpList_plain rfl fun K hK => ?_; go_simp; refine hK _ _ ?_; clear hK K)
  refine wpl_st rfl 24 (.tmp 2) (.tmp 5) rfl (w.heap.size) 0 rfl (#[.bool false, .int .u64 0, .int .u64 (n : Int)]) rfl hg.out (by simp) (by kernel_rfl) (adr_one _ _ _) fun w9 hg9 g9 => ?_
  rw [putA_whole _ _ (by rfl)] at hg9
  have hb9 : Below (w.heap.size) w w9 := (hB.out).trans (below_grown g9 (by have := (hB.out).size; omega) (Nat.le_refl _))
  have hld : (loadVar 24 ⟨w.heap.size, 0, none⟩).run Tryd.prog w9 = .ok (.agg (#[.bool false, .int .u64 0, .int .u64 (n : Int)])) w9 := by
    simpa using run_loadVar_mid w9 (w.heap.size) 0 24 (#[.bool false, .int .u64 0, .int .u64 (n : Int)]).toList _ (blk_range hg9) Tryd.underlying24 rfl (by kernel_rfl)
  clear hg9 g9
  replace hld := hide hld
  replace hb9 := hide hb9
  refine wpList_nil ?_
  go_simp
  go_wp2_with fail
  exact bodyPost_ret (v := .agg #[.bool false, .int .u64 0, .int .u64 (n : Int)]) (by simp [results, Tryd.results19, asAddr, hld.out, Result.andThen]) rfl ⟨rfl, hb9.out⟩
set_option maxRecDepth 20000 in
set_option maxHeartbeats 8000000 in
theorem V6_any (hi lo : Nat) (w : World) :
    Calls Tryd.prog 20 #[.int .u64 (hi : Int), .int .u64 (lo : Int)] w fun e w' => e = .returned (.agg #[.bool true, .int .u64 (hi : Int), .int .u64 (lo : Int)]) ∧ Below w.heap.size w w' := by
  have hB : Below w.heap.size w (w.alloc (.cells #[.bool false, .int .u64 0, .int .u64 0] 24)) := (Below.refl _ _).alloc (Nat.le_refl _) _
  have hg : (w.alloc (.cells #[.bool false, .int .u64 0, .int .u64 0] 24)).heap[w.heap.size]? = some (.cells #[.bool false, .int .u64 0, .int .u64 0] 24 (0, 0)) := blk_new _ _ _
  replace hB := hide hB
  replace hg := hide hg
  go_enter Tryd.func20, Tryd.ntmps20
  go_upto_region 1 with fail
  apply wp_region_lit
  iterate 3 (refine wpList_plain rfl fun K hK => ?_; go_simp; refine hK _ _ ?_; clear hK K)
  refine wpl_st rfl 24 (.tmp 4) (.tmp 7) rfl (w.heap.size) 0 rfl (#[.bool true, .int .u64 (hi : Int), .int .u64 (lo : Int)]) rfl hg.out (by simp) (by kernel_rfl) (adr_one _ _ _) fun w9 hg9 g9 => ?_
  rw [putA_whole _ _ (by rfl)] at hg9
  have hb9 : Below (w.heap.size) w w9 := (hB.out).trans (below_grown g9 (by have := (hB.out).size; omega) (Nat.le_refl _))
  have hld : (loadVar 24 ⟨w.heap.size, 0, none⟩).run Tryd.prog w9 = .ok (.agg (#[.bool true, .int .u64 (hi : Int), .int .u64 (lo : Int)])) w9 := by
    simpa using run_loadVar_mid w9 (w.heap.size) 0 24 (#[.bool true, .int .u64 (hi : Int), .int .u64 (lo : Int)]).toList _ (blk_range hg9) Tryd.underlying24 rfl (by kernel_rfl)
  clear hg9 g9
  replace hld := hide hld
  replace hb9 := hide hb9
  refine wpList_nil ?_
  go_simp
  go_wp2_with fail
  exact bodyPost_ret (v := .agg #[.bool true, .int .u64 (hi : Int), .int .u64 (lo : Int)]) (by simp [results, Tryd.results20, asAddr, hld.out, Result.andThen]) rfl ⟨rfl, hb9.out⟩
theorem Bits_any (v6 : Bool) (hi lo : Int) (w : World) :
    Calls Tryd.prog 22 #[.agg #[.bool v6, .int .u64 hi, .int .u64 lo]] w fun e w' => e = .returned (.int .i64 (if v6 then 128 else 32)) ∧ Below w.heap.size w w' := by
  cases v6
  · go_enter Tryd.func22, Tryd.ntmps22
    go_wp2_with fail
    go_ret
    exact ⟨rfl, (Below.refl _ _).alloc (Nat.le_refl _) _⟩
  · go_enter Tryd.func22, Tryd.ntmps22
    go_wp2_with fail
    go_ret
    exact ⟨rfl, (Below.refl _ _).alloc (Nat.le_refl _) _⟩
def lessB (a b : Adr) : Bool := if a.v6 = b.v6 then (decide (a.hi < b.hi) || (decide (a.hi = b.hi) && decide (a.lo < b.lo))) else b.v6
def cmpI (a b : Adr) : Int := if a.v6 = b.v6 ∧ a.hi = b.hi ∧ a.lo = b.lo then 0 else if lessB a b then -1 else 1
theorem below2 (w : World) (o o' : Obj) : Below w.heap.size w ((w.alloc o).alloc o') := ((Below.refl _ _).alloc (Nat.le_refl _) _).alloc (by simp) _
set_option maxRecDepth 20000 in
set_option maxHeartbeats 8000000 in
theorem less_any (a b : Adr) (w : World) :
    Calls Tryd.prog 17 #[.agg #[.bool a.v6, .int .u64 (a.hi : Int), .int .u64 (a.lo : Int)], .agg #[.bool b.v6, .int .u64 (b.hi : Int), .int .u64 (b.lo : Int)]] w fun e w' => e = .returned (.bool (lessB a b)) ∧ Below w.heap.size w w' := by
  obtain ⟨v, h, l⟩ := a
  obtain ⟨v', h', l'⟩ := b
  unfold lessB
  dsimp only
  have t1 : decide ((h : Int) < (h' : Int)) = decide (h < h') := by rw [Bool.eq_iff_iff]; simp
  have t2 : ((h : Int) == (h' : Int)) = decide (h = h') := by rw [Bool.eq_iff_iff]; simp; omega
  have t3 : decide ((l : Int) < (l' : Int)) = decide (l < l') := by rw [Bool.eq_iff_iff]; simp
  obtain ⟨b1, hb1⟩ : ∃ x, decide (h < h') = x := ⟨_, rfl⟩
  obtain ⟨b2, hb2⟩ : ∃ x, decide (h = h') = x := ⟨_, rfl⟩
  obtain ⟨b3, hb3⟩ : ∃ x, decide (l < l') = x := ⟨_, rfl⟩
  rw [hb1] at t1 ⊢
  rw [hb2] at t2 ⊢
  rw [hb3] at t3 ⊢
  have hbel := below2 w (.cells #[.bool v, .int .u64 (h : Int), .int .u64 (l : Int)] 24) (.cells #[.bool v', .int .u64 (h' : Int), .int .u64 (l' : Int)] 24)
  replace hbel := hide hbel
  cases v <;> cases v' <;> cases b1 <;> cases b2 <;> (
    go_enter Tryd.func17, Tryd.ntmps17
    go_wp2_with fail
    go_ret
    exact ⟨rfl, hbel.out⟩)
set_option maxRecDepth 20000 in
set_option maxHeartbeats 8000000 in
theorem Compare_any (a b : Adr) (w : World) :
    Calls Tryd.prog 18 #[.agg #[.bool a.v6, .int .u64 (a.hi : Int), .int .u64 (a.lo : Int)], .agg #[.bool b.v6, .int .u64 (b.hi : Int), .int .u64 (b.lo : Int)]] w fun e w' => e = .returned (.int .i64 (cmpI a b)) ∧ Below w.heap.size w w' := by
  obtain ⟨v, h, l⟩ := a
  obtain ⟨v', h', l'⟩ := b
  have hbel := below2 w (.cells #[.bool v, .int .u64 (h : Int), .int .u64 (l : Int)] 24) (.cells #[.bool v', .int .u64 (h' : Int), .int .u64 (l' : Int)] 24)
  replace hbel := hide hbel
  have hne : h < h' → ¬ h = h' := fun h => by omega
  have hne' : h' < h → ¬ h = h' ∧ ¬ h < h' := fun h => ⟨by omega, by omega⟩
  have lne : l < l' → ¬ l = l' := fun h => by omega
  have lne' : l' < l → ¬ l = l' ∧ ¬ l < l' := fun h => ⟨by omega, by omega⟩
  have fin : ∀ v : Bool, Calls Tryd.prog 18 #[.agg #[.bool v, .int .u64 (h : Int), .int .u64 (l : Int)], .agg #[.bool v, .int .u64 (h' : Int), .int .u64 (l' : Int)]] w fun e w' => e = .returned (.int .i64 (cmpI ⟨v, h, l⟩ ⟨v, h', l'⟩)) ∧ Below w.heap.size w w' := by
    intro v
    have hbel := below2 w (.cells #[.bool v, .int .u64 (h : Int), .int .u64 (l : Int)] 24) (.cells #[.bool v, .int .u64 (h' : Int), .int .u64 (l' : Int)] 24)
    obtain ⟨R, hR⟩ : ∃ R, cmpI ⟨v, h, l⟩ ⟨v, h', l'⟩ = R := ⟨_, rfl⟩
    rw [hR]
    unfold cmpI lessB at hR
    simp only [true_and, if_true] at hR
    rcases Nat.lt_trichotomy h h' with hh | hh | hh
    · have n1 := hne hh
      rw [if_neg (by omega), if_pos (by simp [hh])] at hR
      subst hR
      clear hne hne' lne lne'
      replace hbel := hide hbel
      go_enter Tryd.func18, Tryd.ntmps18
      go_wp2_with fail
      go_ret
      exact ⟨rfl, hbel.out⟩
    · subst hh
      rcases Nat.lt_trichotomy l l' with hl | hl | hl
      · have n1 := lne hl
        rw [if_neg (by omega), if_pos (by simp [hl])] at hR
        subst hR
        clear hne hne' lne lne'
        replace hbel := hide hbel
        go_enter Tryd.func18, Tryd.ntmps18
        go_wp2_with fail
        go_ret
        exact ⟨rfl, hbel.out⟩
      · subst hl
        rw [if_pos ⟨rfl, rfl⟩] at hR
        subst hR
        clear hne hne' lne lne'
        replace hbel := hide hbel
        go_enter Tryd.func18, Tryd.ntmps18
        go_wp2_with fail
        go_ret
        exact ⟨rfl, hbel.out⟩
      · obtain ⟨n1, n2⟩ := lne' hl
        rw [if_neg (by omega), if_neg (by simp [n2])] at hR
        subst hR
        clear hne hne' lne lne' hl
        replace hbel := hide hbel
        go_enter Tryd.func18, Tryd.ntmps18
        go_wp2_with fail
        go_ret
        exact ⟨rfl, hbel.out⟩
    · obtain ⟨n1, n2⟩ := hne' hh
      rw [if_neg (by omega), if_neg (by simp [n1, n2])] at hR
      subst hR
      clear hne hne' lne lne' hh
      replace hbel := hide hbel
      go_enter Tryd.func18, Tryd.ntmps18
      go_wp2_with fail
      go_ret
      exact ⟨rfl, hbel.out⟩
  cases v <;> cases v'
  · exact fin false
  · clear fin hne hne' lne lne'
    go_enter Tryd.func18, Tryd.ntmps18
    go_wp2_with fail
    go_ret
    exact ⟨rfl, hbel.out⟩
  · clear fin hne hne' lne lne'
    go_enter Tryd.func18, Tryd.ntmps18
    go_wp2_with fail
    go_ret
    exact ⟨rfl, hbel.out⟩
  · exact fin true
end Addr05
end Go.Proofs.YtccmbnaakdffaaaDoor
/- The walk of AddrOrders: it answers true. Condition: the cell of bytealg.MaxLen. -/
namespace Go.Proofs.YtccmbnaakdffaaaDoor
open Go.RowKit Go.ChangeShapes Go.WideShapes Go.ChangeAt Go.Deep
namespace Addr05
theorem cmp3 (a b : Adr) : (lessB a b = true ∧ lessB b a = false ∧ cmpI a b = -1) ∨ (lessB a b = false ∧ lessB b a = true ∧ cmpI a b = 1) ∨ (lessB a b = false ∧ lessB b a = false ∧ cmpI a b = 0) := by
  obtain ⟨v, h, l⟩ := a
  obtain ⟨v', h', l'⟩ := b
  have e : ∀ p q : Prop, [Decidable p] → [Decidable q] → (p ↔ q) → decide p = decide q := fun p q _ _ h => decide_eq_decide.2 h
  cases v <;> cases v' <;> unfold cmpI lessB <;> simp <;> omega
set_option maxRecDepth 20000 in
set_option maxHeartbeats 8000000 in
theorem orders_walk (a b : Adr) (n : Nat) (hn : n < 4294967296) (w : World) (hm : MaxAt w) :
    Calls Tryd.prog 5 #[.agg #[.bool a.v6, .int .u64 (a.hi : Int), .int .u64 (a.lo : Int)], .agg #[.bool b.v6, .int .u64 (b.hi : Int), .int .u64 (b.lo : Int)], .int .u32 (n : Int)] w fun e w' => e = .returned (.bool true) ∧ Below w.heap.size w w' := by
  have hc3 := cmp3 a b
  have hL1 := less_any a b
  have hL2 := less_any b a
  have hC := Compare_any a b
  have hV4 := V4_any n hn
  have hV6 := V6_any a.hi b.lo
  have hA := awake_any
  have wn : IntKind.u64.wrap (n : Int) = (n : Int) := wrapsu64 _ (by omega) (by omega)
  obtain ⟨v, h, l⟩ := a
  obtain ⟨v', h', l'⟩ := b
  dsimp only at hL1 hL2 hC hV6 ⊢
  obtain ⟨L1, hl1⟩ : ∃ x, lessB ⟨v, h, l⟩ ⟨v', h', l'⟩ = x := ⟨_, rfl⟩
  obtain ⟨L2, hl2⟩ : ∃ x, lessB ⟨v', h', l'⟩ ⟨v, h, l⟩ = x := ⟨_, rfl⟩
  obtain ⟨C, hcc⟩ : ∃ x, cmpI ⟨v, h, l⟩ ⟨v', h', l'⟩ = x := ⟨_, rfl⟩
  rw [hl1] at hc3 hL1
  rw [hl2] at hc3 hL2
  rw [hcc] at hc3 hC
  clear hl1 hl2 hcc
  obtain ⟨w1, hw1⟩ : ∃ w1, w.alloc (.cells #[.bool v, .int .u64 (h : Int), .int .u64 (l : Int)] 24) = w1 := ⟨_, rfl⟩
  have hg1 : w1.heap[w.heap.size]? = some (.cells #[.bool v, .int .u64 (h : Int), .int .u64 (l : Int)] 24 (0, 0)) := hw1 ▸ blk_new _ _ _
  have hz1 : w1.heap.size = w.heap.size + 1 := by rw [← hw1]; simp
  have hB1 : Below w.heap.size w w1 := hw1 ▸ (Below.refl _ _).alloc (Nat.le_refl _) _
  obtain ⟨w2, hw2⟩ : ∃ w2, w1.alloc (.cells #[.bool v', .int .u64 (h' : Int), .int .u64 (l' : Int)] 24) = w2 := ⟨_, rfl⟩
  have hg2 : w2.heap[w1.heap.size]? = some (.cells #[.bool v', .int .u64 (h' : Int), .int .u64 (l' : Int)] 24 (0, 0)) := hw2 ▸ blk_new _ _ _
  have hB2' : Below w1.heap.size w1 w2 := hw2 ▸ (Below.refl _ _).alloc (Nat.le_refl _) _
  have hz2 : w1.heap.size < w2.heap.size := by rw [← hw2]; simp
  rw [hz1] at hg2
  have hg1 := blk_below hB2' (by omega) hg1
  have hB2 := hB1.trans (hB2'.mono hB1.size)
  have hm2 := hm.below hB2
  clear hB1 hB2' hm
  have hca := blk_cell hg1
  have hcb := blk_cell hg2
  have hz : w.heap.size + 1 < w2.heap.size := by omega
  replace hg1 := hide hg1
  replace hg2 := hide hg2
  replace hB2 := hide hB2
  replace hm2 := hide hm2
  replace hL1 := hide hL1
  replace hL2 := hide hL2
  replace hC := hide hC
  replace hV4 := hide hV4
  replace hV6 := hide hV6
  replace hA := hide hA
  rcases hc3 with ⟨rfl, rfl, rfl⟩ | ⟨rfl, rfl, rfl⟩ | ⟨rfl, rfl, rfl⟩
  all_goals
    go_enter Tryd.func5, Tryd.ntmps5
    go_wp2_with fail
    clear hw1 hw2
    clear hz1
    refine (hL1.out w2).mono ?_
    rintro e w3 ⟨rfl, hb3⟩
    have hg13 := blk_below hb3 (by omega) hg1.out
    have hg23 := blk_below hb3 (by omega) hg2.out
    have hB3 := hB2.out.trans (hb3.mono hB2.out.size)
    have hz3 := hb3.size
    have hm3 := hm2.out.below hb3
    clear hb3 hca hcb hg1 hg2 hB2 hm2
    have hca := blk_cell hg13
    have hcb := blk_cell hg23
    replace hg13 := hide hg13
    replace hg23 := hide hg23
    replace hB3 := hide hB3
    replace hm3 := hide hm3
    go_wp2_with fail
    refine (hL2.out w3).mono ?_
    rintro e w4 ⟨rfl, hb4⟩
    have hg14 := blk_below hb4 (by omega) hg13.out
    have hg24 := blk_below hb4 (by omega) hg23.out
    have hB4 := hB3.out.trans (hb4.mono hB3.out.size)
    have hz4 := hb4.size
    have hm4 := hm3.out.below hb4
    clear hb4 hca hcb hg13 hg23 hB3 hm3
    have q1 := fun l : Later w4 => hC.out l.w
    have q2 := fun l : Later w4 => hV4.out l.w
    have q3 := fun l : Later w4 => hV6.out l.w
    have q4 := fun l : Later w4 => hA.out l.w (hm4.below l.hb)
    have hca := fun l : Later w4 => blk_cell (blk_below l.hb (by omega) hg14)
    have hcb := fun l : Later w4 => blk_cell (blk_below l.hb (by omega) hg24)
    replace q1 := hide q1
    replace q2 := hide q2
    replace q3 := hide q3
    replace q4 := hide q4
    replace hg14 := hide hg14
    replace hg24 := hide hg24
    replace hB4 := hide hB4
    replace hm4 := hide hm4
    go_upto_region 6 with fail
    refine wp_region_L (by as_aux_lemma => kernel_rfl) ?_
    refine wpE_seg 0 30 (fuel := 0) (by as_aux_lemma => kernel_rfl) (fun d _ _ _ _ h => by cases d <;> exact h) (by as_aux_lemma => kernel_rfl) (by as_aux_lemma => kernel_rfl) ?_
    simp only [List.drop_zero, List.take_succ_cons, List.take_zero]
    iterate 2 (refine wpQE_step (fun K hK => ?_); go_simp; refine hK _ ?_; clear hK K)
    (refine wpQE_step (fun K hK => ?_); go_simp; apply Exists.intro; refine ⟨fun l => ?_, hK _ ?_⟩; (go_at_call 18; refine (q1.out l).mono ?_; rintro e w' ⟨rfl, hb⟩; exact ⟨rfl, hb⟩); clear hK K)
    iterate 4 (refine wpQE_step (fun K hK => ?_); go_simp; refine hK _ ?_; clear hK K)
    (refine wpQE_step (fun K hK => ?_); go_simp; apply Exists.intro; refine ⟨fun l => ?_, hK _ ?_⟩; (go_at_call 19; refine (q2.out l).mono ?_; rintro e w' ⟨rfl, hb⟩; exact ⟨rfl, hb⟩); clear hK K)
    iterate 6 (refine wpQE_step (fun K hK => ?_); go_simp; refine hK _ ?_; clear hK K)
    iterate 4 (refine wpQE_step (fun K hK => ?_); go_simp; refine hK _ ?_; clear hK K)
    (refine wpQE_step (fun K hK => ?_); go_simp; apply Exists.intro; refine ⟨fun l => ?_, hK _ ?_⟩; (go_at_call 20; refine (q3.out l).mono ?_; rintro e w' ⟨rfl, hb⟩; exact ⟨rfl, hb⟩); clear hK K)
    iterate 8 (refine wpQE_step (fun K hK => ?_); go_simp; refine hK _ ?_; clear hK K)
    (refine wpQE_step (fun K hK => ?_); go_simp; apply Exists.intro; refine ⟨fun l => ?_, hK _ ?_⟩; (go_at_call 14; refine (q4.out l).mono ?_; rintro e w' ⟨rfl, hb⟩; exact ⟨rfl, hb⟩); clear hK K)
    iterate 2 (refine wpQE_step (fun K hK => ?_); go_simp; refine hK _ ?_; clear hK K)
    refine wpQE_nil ?_
    refine wpE_done (by as_aux_lemma => kernel_rfl) (fun w5 hb5 => ?_) 0
    have hB5 := hB4.out.trans (hb5.mono hB4.out.size)
    replace hB5 := hide hB5
    clear hb5 hca hcb q1 q2 q3 q4 hg14 hg24 hB4 hm4
    go_wp2_with fail
    go_ret
    exact ⟨rfl, hB5.out⟩
theorem u32_nat {i : Int} (h : (Lit.int .u32 i).wf = true) : ∃ n : Nat, i = (n : Int) ∧ n < 4294967296 := by
  have h2 := u32_wf h
  exact ⟨i.toNat, by omega, by omega⟩
theorem orders_row (v : Bool) (h l : Int) (v' : Bool) (h' l' n : Int) (w : World) (h1 : (Lit.int .u64 h).wf = true) (h2 : (Lit.int .u64 l).wf = true) (h3 : (Lit.int .u64 h').wf = true) (h4 : (Lit.int .u64 l').wf = true) (h5 : (Lit.int .u32 n).wf = true) (hm : MaxAt w) :
    Calls Tryd.prog 5 #[.agg #[.bool v, .int .u64 h, .int .u64 l], .agg #[.bool v', .int .u64 h', .int .u64 l'], .int .u32 n] w fun e w' => e = .returned (.bool true) ∧ Below w.heap.size w w' := by
  obtain ⟨h, rfl, _⟩ := u64_nat h1
  obtain ⟨l, rfl, _⟩ := u64_nat h2
  obtain ⟨h', rfl, _⟩ := u64_nat h3
  obtain ⟨l', rfl, _⟩ := u64_nat h4
  obtain ⟨n, rfl, h5'⟩ := u32_nat h5
  exact orders_walk ⟨v, h, l⟩ ⟨v', h', l'⟩ n h5' w hm
end Addr05
end Go.Proofs.YtccmbnaakdffaaaDoor
