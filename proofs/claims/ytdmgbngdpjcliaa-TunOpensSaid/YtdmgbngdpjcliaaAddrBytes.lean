/- addr.Bytes by contract. Conditions: numbers of 64 bits. -/
import Derived.Test.YtdmgbngdpjcliaaFourHead
import Derived.Test.YtdmgbngdpjcliaaRegion
import Derived.Test.YtdmgbngdpjcliaaPut
namespace Go.Proofs.Ytdmgbngdpjcliaa
open Go.RowKit Go.ChangeShapes Go.WideShapes Go.ChangeAt Go.Deep
set_option maxHeartbeats 2000000 in
theorem addrPut_any (base : Nat) (v : Value) (xs : List UInt8) (N k : Nat) (w : World) (hown : OwnB w base v xs) (hbase : base ≤ w.heap.size) (_hN : N < 18446744073709551616) (hk : k ≤ 8) (hl : xs.length ≤ 549755813888) :
    Calls Try.prog 79 #[v, .int .u64 (N : Int), .int .i64 (k : Int)] w fun e w' => ∃ v', e = .returned v' ∧ OwnB w' base v' (xs ++ beB N k) ∧ Grew w v w' v' := by
  go_enter Try.func79, Try.ntmps79
  go_wp2_with fail
  go_loopw [0, 7] (fun u i wr => ∃ (j : Nat) (pre : List UInt8), j ≤ k ∧ i = .int .i64 ((j : Int) - 1) ∧ pre ++ beB N j = beB N k ∧ OwnB wr base u (xs ++ pre) ∧ Grew w v wr u) (fun _ i _ => (intOf i + 1).toNat)
  case atStart => exact ⟨k, [], Nat.le_refl _, rfl, rfl, by simpa using hown, Grew.refl _ _⟩
  case round =>
    obtain ⟨j, pre, hj, rfl, hpre, hu, hg⟩ := hrel
    have hpl : pre.length ≤ 8 := by
      have := congrArg List.length hpre
      rw [List.length_append, beB_length, beB_length] at this
      omega
    replace hpre := hide hpre
    replace hu := hide hu
    replace hg := hide hg
    rcases j with _ | i
    · go_wp2_with fail
      go_ret
      have h1 := hpre.out
      simp only [beB, List.append_nil] at h1
      exact ⟨_, rfl, h1 ▸ hu.out, hg.out⟩
    · have e1 : (((i + 1 : Nat) : Int) - 1) = (i : Int) := by omega
      rw [e1]
      have hps := pow_shift i (by omega)
      go_wp2_with (at_builtin; refine wpl_lit_bv rfl (.tmp 14) (.tmp 20) rfl base _ (xs ++ pre) [UInt8.ofNat (N / 256 ^ i)] 1 1 rfl rfl ?_ rfl ?_ ?_ ?_ ?_)
      · rw [List.map_cons, List.map_nil, ← u8v_mod]
        congr 3
        rw [Int.pow_mul]
        simp
      · exact hu.out
      · have := hg.out.grown.size
        omega
      · rw [List.length_append]; omega
      intro v' w' hown' hg'
      go_wp2_with fail
      refine ⟨⟨i, pre ++ [UInt8.ofNat (N / 256 ^ i)], by omega, by go_num, ?_, ?_, hg.out.trans hg'⟩, by simp [intOf] <;> omega⟩
      · have h1 := hpre.out
        simp only [beB] at h1
        rw [← h1]; simp
      · simpa using hown'
theorem addrPut_lit (Ni ki : Int) (N k : Nat) (hNi : Ni = (N : Int)) (hki : ki = (k : Int)) (base : Nat) (v : Value) (xs : List UInt8) (w : World) (hown : OwnB w base v xs) (hbase : base ≤ w.heap.size) (hN : N < 18446744073709551616) (hk : k ≤ 8) (hl : xs.length ≤ 549755813888) :
    Calls Try.prog 79 #[v, .int .u64 Ni, .int .i64 ki] w fun e w' => ∃ v', e = .returned v' ∧ OwnB w' base v' (xs ++ beB N k) ∧ Grew w v w' v' := by
  subst hNi hki
  exact addrPut_any base v xs N k w hown hbase hN hk hl
/-- An address's bytes. -/
def addrB (v6 : Bool) (hi lo : Nat) : List UInt8 := if v6 then beB hi 8 ++ beB lo 8 else beB lo 4
theorem addrB_length (v6 : Bool) (hi lo : Nat) : (addrB v6 hi lo).length ≤ 16 := by
  unfold addrB
  split <;> simp [beB_length]
set_option maxHeartbeats 2000000 in
theorem addrBytes_any (v6 : Bool) (hi lo : Nat) (w : World) (h1 : hi < 18446744073709551616) (h2 : lo < 18446744073709551616) :
    Calls Try.prog 45 #[addrV v6 hi lo] w fun e w' => ∃ v, e = .returned v ∧ OwnB w' w.heap.size v (addrB v6 hi lo) ∧ Below w.heap.size w w' := by
  have hbox := blk_new w 26 #[.bool v6, .int .u64 hi, .int .u64 lo]
  obtain ⟨w1, hw1⟩ : ∃ w1, w.alloc (.cells #[.bool v6, .int .u64 hi, .int .u64 lo] 26) = w1 := ⟨_, rfl⟩
  have hb1 : Below w.heap.size w w1 := hw1 ▸ (Below.refl _ _).alloc (Nat.le_refl _) _
  have hlt : w.heap.size < w1.heap.size := by rw [← hw1]; simp
  rw [hw1] at hbox
  have hcg := blk_cell hbox
  replace hb1 := hide hb1
  replace hbox := hide hbox
  rcases v6 with _ | _
  · unfold addrV
    go_enter Try.func45, Try.ntmps45
    go_wp2_with fail
    refine (addrPut_lit _ _ lo 4 rfl rfl w1.heap.size _ [] _ (OwnB.nil _ _) (Nat.le_refl _) h2 (by omega) (by simp)).mono ?_
    rintro e w2 ⟨v2, rfl, hown, hg⟩
    have hb2 := hg.belowNil
    replace hown := hide hown
    replace hb2 := hide hb2
    clear hg
    go_wp2_with fail
    go_ret
    exact ⟨_, rfl, by simpa [addrB] using hown.out.weaken (Nat.le_of_lt hlt), hb1.out.trans (hb2.out.mono (Nat.le_of_lt hlt))⟩
  · unfold addrV
    have hcl : ∀ (l : Later w1) (o : Nat), l.w.cell? ⟨w.heap.size, o, none⟩ = _ := fun l o => blk_cell (blk_below l.hb hlt hbox.out) o
    go_enter Try.func45, Try.ntmps45
    go_wp2_with fail
    clear hw1
    refine wp_region_L (by kernel_rfl) ?_
    refine wpE_seg 0 2 (fuel := 5) (by kernel_rfl) (fun d _ _ _ _ h => by cases d <;> exact h) (by kernel_rfl) (by kernel_rfl) ?_
    simp only [List.drop_zero, List.take_succ_cons, List.take_zero]
    iterate 2 (refine wpQE_step (fun K hK => ?_); go_simp; refine hK _ ?_; clear hK K)
    refine wpQE_nil ?_
    refine wpE_seg 3 2 (fuel := 3) (by kernel_rfl) (fun d _ _ _ _ h => by cases d <;> exact h) (by kernel_rfl) (by kernel_rfl) ?_
    simp only [List.drop_succ_cons, List.drop_zero, List.take_succ_cons, List.take_zero]
    iterate 2 (refine wpQE_step (fun K hK => ?_); go_simp; refine hK _ ?_; clear hK K)
    refine wpQE_nil ?_
    clear hcl
    refine wpE_step 2 (fuel := 2) rfl (by kernel_rfl) (fun l K hK => ?_)
    go_simp
    go_at_call 79
    refine (addrPut_lit _ _ hi 8 rfl rfl l.w.heap.size _ [] _ (OwnB.nil _ _) (Nat.le_refl _) h1 (by omega) (by simp)).mono ?_
    rintro e w2 ⟨v2, rfl, hown, hg⟩
    have hb2 := hg.belowNil
    clear hg
    refine hK _ _ hb2 ?_
    clear hK K
    refine wpE_end (by kernel_rfl) (fun l2 => ?_)
    have hown2 := hown.below l2.hb
    have hb3 : Below w1.heap.size w1 l2.w := (l.hb.trans (hb2.mono l.hb.size)).trans (l2.hb.mono (Nat.le_trans l.hb.size hb2.size))
    refine wpT_step 5 rfl (by kernel_rfl) (fun K hK => ?_)
    go_simp
    go_at_call 79
    refine (addrPut_lit _ _ lo 8 rfl rfl l.w.heap.size _ _ _ hown2 (Nat.le_trans hb2.size l2.hb.size) h2 (by omega) (by simp [beB_length])).mono ?_
    rintro e w4 ⟨v4, rfl, hown4, hg4⟩
    have hb4 := hg4.below hown2 (Nat.le_trans hb2.size l2.hb.size)
    refine hK _ _ ?_
    clear hK K
    refine wpT_step 6 rfl (by kernel_rfl) (fun K hK => ?_)
    go_simp
    refine hK _ _ ?_
    clear hK K
    refine wpT_done (by kernel_rfl) ?_ 0
    have hbf := hb1.out.trans ((hb3.trans (hb4.mono l.hb.size)).mono (Nat.le_of_lt hlt))
    have hof := hown4.weaken (Nat.le_trans (Nat.le_of_lt hlt) l.hb.size)
    clear hown hown2 hg4 hb4 hown4 hb2 hb3
    replace hbf := hide hbf
    replace hof := hide hof
    go_wp2_with fail
    go_ret
    exact ⟨_, rfl, by simpa [addrB] using hof.out, hbf.out⟩
end Go.Proofs.Ytdmgbngdpjcliaa
