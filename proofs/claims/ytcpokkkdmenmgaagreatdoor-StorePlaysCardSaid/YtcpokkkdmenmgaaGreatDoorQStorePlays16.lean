/- tree: right: why a node may not be, that stands behind others. Condition: fewer than 2^40 nodes, names of at most 2^40 bytes. -/
import Derived.Test.YtcpokkkdmenmgaaGreatDoorQStorePlays11
import Derived.Test.YtcpokkkdmenmgaaGreatDoorQStorePlays12
import Derived.Test.YtcpokkkdmenmgaaGreatDoorQStorePlays8
import Derived.Test.YtcpokkkdmenmgaaGreatDoorQStorePlays3
import Derived.Test.YtcpokkkdmenmgaaGreatDoorQStorePlays15
namespace Go.Proofs.YtcpokkkdmenmgaaGreatDoor
open Go.RowKit Go.ChangeShapes Go.WideShapes Go.ChangeAt Go.Deep
namespace Tree16
open Conf18 (Nd zA ndC nd_one eqw)
open Addr05 (Adr wpl_eqA wpl_neA arrA adr_ext)
def ndA (n : Nd) : Array Value := #[.string (str n.name), .int .i64 n.kind, .int .i64 n.above, .int .i64 n.weight, .bool n.a.v6, .int .u64 (n.a.hi : Int), .int .u64 (n.a.lo : Int)]
theorem rightA_is (a : Adr) : Addr05.rightB a.v6 a.hi a.lo = rightA a := by
  unfold rightA
  apply Bool.eq_iff_iff.2
  rw [decide_eq_true_iff]
  exact Addr05.rightB_iff a
/-- The tests, one by one, as the code makes them. -/
def tB2 (wt kd : Int) : Bool := decide (wt < 0) || decide (65535 < wt) || ((kd == 1) && (wt != 0))
def tB3 (kd ab : Int) (k : Nat) : Bool := ((kd == 1) && (ab != -1)) || (decide (1 < kd) && (decide (ab < 0) || decide ((k : Int) ≤ ab)))
theorem rightF_tests (n : Nd) (l : List Nd) : rightF n l = if (!nameF n.name || decide (n.kind < 1) || decide (4 < n.kind)) = true then 1 else if tB2 n.weight n.kind = true then 17 else if tB3 n.kind n.above l.length = true then 16
    else if (decide (1 < n.kind) && ((l.getD n.above.toNat n).kind != n.kind - 1)) = true then 16 else if (!rightA n.a || ((n.kind != 4) && !decide (n.a = zA))) = true then 18 else if (l.any (clash n)) = true then 8 else 0 := by
  unfold rightF tB2 tB3
  have h1 : (nameF n.name = false ∨ n.kind < 1 ∨ 4 < n.kind) ↔ (!nameF n.name || decide (n.kind < 1) || decide (4 < n.kind)) = true := by
    simp [or_assoc]
  have h2 : (n.weight < 0 ∨ 65535 < n.weight ∨ (n.kind = 1 ∧ n.weight ≠ 0)) ↔ (decide (n.weight < 0) || decide (65535 < n.weight) || ((n.kind == 1) && (n.weight != 0))) = true := by
    simp [or_assoc]
  have h3 : ((n.kind = 1 ∧ n.above ≠ -1) ∨ (1 < n.kind ∧ (n.above < 0 ∨ (l.length : Int) ≤ n.above))) ↔ (((n.kind == 1) && (n.above != -1)) || (decide (1 < n.kind) && (decide (n.above < 0) || decide ((l.length : Int) ≤ n.above)))) = true := by
    simp
  have h4 : (1 < n.kind ∧ (l.getD n.above.toNat n).kind ≠ n.kind - 1) ↔ (decide (1 < n.kind) && ((l.getD n.above.toNat n).kind != n.kind - 1)) = true := by
    simp
  have h5 : (rightA n.a = false ∨ (n.kind ≠ 4 ∧ n.a ≠ zA)) ↔ (!rightA n.a || ((n.kind != 4) && !decide (n.a = zA))) = true := by
    simp
  simp only [h1, h2, h3, h4, h5]
set_option maxRecDepth 20000 in
set_option maxHeartbeats 16000000 in
theorem right_any (n : Nd) (l : List Nd) (k cap : Nat) (A : Option Addr) (w : World) (hl : IsT ndC 7 w w.heap.size A k l) (hk : k ≤ 1099511627776) (hn : n.name.length ≤ 1099511627776) :
    Calls Tryz.prog 53 #[.agg (ndA n), .slice A k cap] w fun e w' => e = .returned (.int .i64 (rightF n l : Int)) ∧ Below w.heap.size w w' := by
  obtain ⟨r, hr⟩ : ∃ r, rightF n l = r := ⟨_, rfl⟩
  rw [hr]
  rw [rightF_tests] at hr
  obtain ⟨nm, kd, ab, wt, ⟨v6, hi, lo⟩⟩ := n
  unfold ndA
  dsimp only at hn hr ⊢
  have hlen := hl.1
  rw [hlen] at hr
  obtain ⟨z, hz⟩ : ∃ z, w.heap.size = z := ⟨_, rfl⟩
  obtain ⟨w1, hw1⟩ : ∃ w1, w.alloc (.cells #[.string (str nm), .int .i64 kd, .int .i64 ab, .int .i64 wt, .bool v6, .int .u64 (hi : Int), .int .u64 (lo : Int)] 68) = w1 := ⟨_, rfl⟩
  have hB : Below w.heap.size w w1 := hw1 ▸ (Below.refl _ _).alloc (Nat.le_refl _) _
  have hg1 : w1.heap[w.heap.size]? = some (.cells #[.string (str nm), .int .i64 kd, .int .i64 ab, .int .i64 wt, .bool v6, .int .u64 (hi : Int), .int .u64 (lo : Int)] 68 (0, 0)) := hw1 ▸ blk_new _ _ _
  have hl1 := hl.below hB
  rw [hz] at hg1 hl1 hB
  have hz1 : z < w1.heap.size := Conf18.lt_of_blk hg1
  have hrA : ∀ w, Calls Tryz.prog 52 #[.agg #[.bool v6, .int .u64 (hi : Int), .int .u64 (lo : Int)]] w fun e w' => e = .returned (.bool (rightA ⟨v6, hi, lo⟩)) ∧ Below w.heap.size w w' := fun w => by
    have h := Addr05.Right_any v6 hi lo w
    rw [rightA_is ⟨v6, hi, lo⟩] at h
    exact h
  have q := name_any nm hn w1
  obtain ⟨NB, hNB⟩ : ∃ B, nameF nm = B := ⟨_, rfl⟩
  rw [hNB] at hr q
  have hgc := blk_cell hg1
  obtain ⟨bk1, hbk1⟩ : ∃ b, decide (kd < 1) = b := ⟨_, rfl⟩
  obtain ⟨bk4, hbk4⟩ : ∃ b, decide (4 < kd) = b := ⟨_, rfl⟩
  replace hB := hide hB
  replace hg1 := hide hg1
  replace hl1 := hide hl1
  replace hr := hide hr
  replace q := hide q
  replace hNB := hide hNB
  replace hrA := hide hrA
  clear hl
  go_enter Tryz.func53, Tryz.ntmps53
  go_upto_region 1 with fail
  clear hw1
  obtain ⟨B1, hB1⟩ : ∃ b, (!NB || bk1 || bk4) = b := ⟨_, rfl⟩
  go_cut [7] (fun bv wx => bv = .bool B1 ∧ w1 = wx)
  case first =>
    clear hr hrA hlen hk
    go_wp2_with fail
    refine (q.out).mono ?_
    rintro e w1 ⟨rfl, rfl⟩
    cases NB
    · obtain rfl : true = B1 := hB1
      go_wp2_with fail
      go_meet
      exact ⟨rfl, rfl⟩
    · cases bk1
      · obtain rfl : bk4 = B1 := hB1
        go_wp2_with fail
        go_meet
        exact ⟨rfl, rfl⟩
      · obtain rfl : true = B1 := by rw [← hB1]; rfl
        go_wp2_with fail
        go_meet
        exact ⟨rfl, rfl⟩
  case rest =>
  obtain ⟨rfl, rfl⟩ := hcut
  have hr1 := hr.out
  rw [hbk1, hbk4, hB1] at hr1
  have hk14 : B1 = false → 1 ≤ kd ∧ kd ≤ 4 := fun h => by
    rw [h] at hB1
    simp at hB1
    have h1 := of_decide_eq_false (hbk1.trans hB1.1.2)
    have h2 := of_decide_eq_false (hbk4.trans hB1.2)
    exact ⟨by omega, by omega⟩
  clear hr q hNB hB1
  cases B1
  case true =>
    obtain rfl : 1 = r := by rw [← hr1]; rfl
    go_wp2_with fail
    go_ret
    exact ⟨rfl, hB.out⟩
  case false =>
  clear hbk1 hbk4
  have hwk : IntKind.i64.wrap (kd - 1) = kd - 1 := by
    have := hk14 rfl
    exact wraps62 _ (by omega) (by omega)
  replace hwk := hide hwk
  clear hk14
  obtain ⟨bw0, hbw0⟩ : ∃ b, decide (wt < 0) = b := ⟨_, rfl⟩
  obtain ⟨bw6, hbw6⟩ : ∃ b, decide (65535 < wt) = b := ⟨_, rfl⟩
  obtain ⟨ek1, hek1⟩ : ∃ b, (kd == 1) = b := ⟨_, rfl⟩
  obtain ⟨ew0, hew0⟩ : ∃ b, (wt != 0) = b := ⟨_, rfl⟩
  obtain ⟨B2, hB2⟩ : ∃ b, tB2 wt kd = b := ⟨_, rfl⟩
  have hB2' : (bw0 || bw6 || (ek1 && ew0)) = B2 := by rw [← hbw0, ← hbw6, ← hek1, ← hew0]; exact hB2
  replace hr1 := hide hr1
  replace hB2 := hide hB2
  go_upto_region 3 with fail
  go_cut [22] (fun bv wx => bv = .bool B2 ∧ w1 = wx)
  case first =>
    clear hr1 hrA hlen hk
    cases bw0
    · cases bw6
      · cases ek1
        · obtain rfl : false = B2 := hB2'
          go_wp2_with fail
          go_meet
          exact ⟨rfl, rfl⟩
        · obtain rfl : ew0 = B2 := hB2'
          go_wp2_with fail
          go_meet
          exact ⟨rfl, rfl⟩
      · obtain rfl : true = B2 := by rw [← hB2']; rfl
        cases ek1 <;> cases ew0 <;> (go_wp2_with fail; go_meet; exact ⟨rfl, rfl⟩)
    · obtain rfl : true = B2 := by rw [← hB2']; rfl
      cases bw6 <;> cases ek1 <;> cases ew0 <;> (go_wp2_with fail; go_meet; exact ⟨rfl, rfl⟩)
  case rest =>
  obtain ⟨rfl, rfl⟩ := hcut
  have hr2 := hr1.out
  rw [if_neg (by decide), hB2.out] at hr2
  clear hr1 hB2 hB2' hbw0 hbw6 hew0
  cases B2
  case true =>
    obtain rfl : 17 = r := by rw [← hr2]; rfl
    go_wp2_with fail
    go_ret
    exact ⟨rfl, hB.out⟩
  case false =>
  obtain ⟨ea1, hea1⟩ : ∃ b, (ab != -1) = b := ⟨_, rfl⟩
  obtain ⟨bk5, hbk5⟩ : ∃ b, decide (1 < kd) = b := ⟨_, rfl⟩
  obtain ⟨ba0, hba0⟩ : ∃ b, decide (ab < 0) = b := ⟨_, rfl⟩
  obtain ⟨bak, hbak⟩ : ∃ b, decide ((k : Int) ≤ ab) = b := ⟨_, rfl⟩
  obtain ⟨B3, hB3⟩ : ∃ b, tB3 kd ab k = b := ⟨_, rfl⟩
  obtain ⟨B3a, hB3a⟩ : ∃ b, (ek1 && ea1) = b := ⟨_, rfl⟩
  have hB3' : (B3a || (bk5 && (ba0 || bak))) = B3 := by rw [← hB3a, ← hek1, ← hea1, ← hbk5, ← hba0, ← hbak]; exact hB3
  replace hr2 := hide hr2
  replace hB3 := hide hB3
  go_upto_region 5 with fail
  go_cut [41] (fun bv wx => bv = .bool B3a ∧ w1 = wx)
  case first =>
    clear hr2 hrA hlen hk hB3' hB3
    cases ek1
    · obtain rfl : false = B3a := hB3a
      go_wp2_with fail
      go_meet
      exact ⟨rfl, rfl⟩
    · obtain rfl : ea1 = B3a := hB3a
      go_wp2_with fail
      go_meet
      exact ⟨rfl, rfl⟩
  case rest =>
  obtain ⟨rfl, rfl⟩ := hcut
  go_upto_if 41 with fail
  go_cut [41] (fun bv wx => bv = .bool B3 ∧ w1 = wx)
  case first =>
    clear hr2 hrA hlen hk hB3 hB3a hek1 hea1
    cases B3a
    · cases bk5
      · obtain rfl : false = B3 := hB3'
        go_wp2_with fail
        go_meet
        exact ⟨rfl, rfl⟩
      · cases ba0
        · obtain rfl : bak = B3 := hB3'
          go_wp2_with fail
          go_meet
          exact ⟨rfl, rfl⟩
        · obtain rfl : true = B3 := by rw [← hB3']; rfl
          go_wp2_with fail
          go_meet
          exact ⟨rfl, rfl⟩
    · obtain rfl : true = B3 := by rw [← hB3']; rfl
      go_wp2_with fail
      go_meet
      exact ⟨rfl, rfl⟩
  case rest =>
  obtain ⟨rfl, rfl⟩ := hcut
  have hr3 := hr2.out
  rw [hB3.out] at hr3
  clear hr2 hB3 hB3a hek1 hea1
  cases B3
  case true =>
    obtain rfl : 16 = r := by rw [← hr3]; rfl
    go_wp2_with fail
    go_ret
    exact ⟨rfl, hB.out⟩
  case false =>
  obtain ⟨B4, hB4⟩ : ∃ b, (decide (1 < kd) && ((l.getD ab.toNat ⟨nm, kd, ab, wt, ⟨v6, hi, lo⟩⟩).kind != kd - 1)) = b := ⟨_, rfl⟩
  rw [if_neg (by decide), hB4] at hr3
  rw [hbk5] at hB4
  have hz1' := hz1
  replace hr3 := hide hr3
  go_upto_region 8 with fail
  go_cut [65] from 66 to 80 (fun bv wx => bv = .bool B4 ∧ Below w1.heap.size w1 wx)
  case first =>
    have la := fun l : Later w1 => blk_cell (blk_below l.hb hz1 hg1.out)
    cases bk5
    · obtain rfl : false = B4 := hB4
      clear hr3 hrA hlen hk hB3'
      refine wp_region_L (by as_aux_lemma => kernel_rfl) ?_
      refine wpE_seg 0 16 (fuel := 0) (by as_aux_lemma => kernel_rfl) (fun d _ _ _ _ h => by cases d <;> exact h) (by as_aux_lemma => kernel_rfl) (by as_aux_lemma => kernel_rfl) ?_
      simp only [List.drop_zero, List.take_succ_cons, List.take_zero]
      iterate 3 (refine wpQE_step (fun K hK => ?_); go_simp; refine hK _ ?_; clear hK K)
      refine wpQE_val_skip (.bool false) 10 rfl (fun l => rfl) (by as_aux_lemma => kernel_rfl) ?_
      dsimp only [putU, List.take_succ_cons, List.take_zero, List.drop_succ_cons, List.drop_zero, Act.put]
      iterate 2 (refine wpQE_step (fun K hK => ?_); go_simp; refine hK _ ?_; clear hK K)
      refine wpQE_nil ?_
      refine wpE_done (by as_aux_lemma => kernel_rfl) (fun w3 hb3 => ?_) 0
      clear la
      go_wp2_with fail
      go_meet
      exact ⟨rfl, hb3⟩
    · have ha0 : 0 ≤ ab := by
        cases ba0
        · have := of_decide_eq_false hba0; omega
        · exfalso; cases B3a <;> simp at hB3'
      have hak : ab < (k : Int) := by
        cases bak
        · have := of_decide_eq_false hbak; omega
        · exfalso; cases B3a <;> cases ba0 <;> simp at hB3'
      obtain ⟨u, rfl⟩ : ∃ u : Nat, ab = (u : Int) := ⟨ab.toNat, by omega⟩
      obtain ⟨b, off, m, rfl, hbk, hmi, hcell⟩ := IsT.at (f := ndC) (size := 7) (fun _ => rfl) (by decide) hl1.out (i := u) (by omega)
      have kc : w1.cell? ⟨b, off + u * 7 + 1, none⟩ = some (.int .i64 m.kind) := hcell 1 _ rfl
      have lk := fun l : Later w1 => (l.hb.cell (p := ⟨b, off + u * 7 + 1, none⟩) (by dsimp only; omega)).trans kc
      rw [show (l.getD (u : Int).toNat ⟨nm, kd, (u : Int), wt, ⟨v6, hi, lo⟩⟩) = m by rw [Int.toNat_natCast, List.getD_eq_getElem?_getD, hmi]; rfl] at hB4
      have wk : IntKind.i64.wrap (kd - 1) = kd - 1 := hwk.out
      obtain ⟨em, hem⟩ : ∃ b, (m.kind != kd - 1) = b := ⟨_, rfl⟩
      rw [hem] at hB4
      obtain rfl : em = B4 := hB4
      clear hcell hr3 hrA hlen hk hB3' hba0 hbak kc
      refine wp_region_L (by as_aux_lemma => kernel_rfl) ?_
      refine wpE_seg 0 16 (fuel := 0) (by as_aux_lemma => kernel_rfl) (fun d _ _ _ _ h => by cases d <;> exact h) (by as_aux_lemma => kernel_rfl) (by as_aux_lemma => kernel_rfl) ?_
      simp only [List.drop_zero, List.take_succ_cons, List.take_zero]
      iterate 16 (refine wpQE_step (fun K hK => ?_); go_simp; refine hK _ ?_; clear hK K)
      refine wpQE_nil ?_
      refine wpE_done (by as_aux_lemma => kernel_rfl) (fun w3 hb3 => ?_) 0
      clear la lk
      go_wp2_with fail
      go_meet
      exact ⟨rfl, hb3⟩
  case rest =>
  obtain ⟨rfl, hb3⟩ := hcut
  have hg3 := blk_below hb3 hz1 hg1.out
  have hl3 := hl1.out.below (hb3.mono (by omega))
  have hB3w := hB.out.trans (hb3.mono (by omega))
  have hz3 : z < wc.heap.size := Conf18.lt_of_blk hg3
  have hgc3 := blk_cell hg3
  clear hb3 hgc hg1 hl1 hB hB3' hba0 hbak hbk5 hB4
  replace hg3 := hide hg3
  replace hl3 := hide hl3
  replace hB3w := hide hB3w
  cases B4
  case true =>
    obtain rfl : 16 = r := by rw [← hr3.out]; rfl
    go_wp2_with fail
    go_ret
    exact ⟨rfl, hB3w.out⟩
  case false =>
  have hr4 := hr3.out
  rw [if_neg (by decide)] at hr4
  clear hr3
  obtain ⟨ez, hez⟩ : ∃ b, decide ((⟨v6, hi, lo⟩ : Adr) = zA) = b := ⟨_, rfl⟩
  obtain ⟨ek4, hek4⟩ : ∃ b, (kd != 4) = b := ⟨_, rfl⟩
  obtain ⟨RB, hRB⟩ : ∃ B, rightA ⟨v6, hi, lo⟩ = B := ⟨_, rfl⟩
  have qA := hrA.out wc
  rw [hRB] at hr4 qA
  rw [hez, hek4] at hr4
  obtain ⟨B5, hB5⟩ : ∃ b, (!RB || (ek4 && !ez)) = b := ⟨_, rfl⟩
  rw [hB5] at hr4
  clear hrA hRB
  replace qA := hide qA
  replace hr4 := hide hr4
  go_upto_region 10 with fail
  go_cut [81] from 82 to 96 (fun bv wx => bv = .bool B5 ∧ Below wc.heap.size wc wx)
  case first =>
    clear hr4 hlen hk
    go_wp2_with fail
    refine (qA.out).mono ?_
    rintro e w4 ⟨rfl, hb4⟩
    have hgc4 := blk_cell (blk_below hb4 hz3 hg3.out)
    clear hgc3 qA
    replace hb4 := hide hb4
    cases RB
    · obtain rfl : true = B5 := hB5
      go_wp2_with fail
      go_meet
      exact ⟨rfl, hb4.out⟩
    · cases ek4
      · obtain rfl : false = B5 := hB5
        go_wp2_with fail
        go_meet
        exact ⟨rfl, hb4.out⟩
      · cases ez
        · obtain rfl : true = B5 := hB5
          have hz0 := of_decide_eq_false hez
          clear hez
          cases v6
          · by_cases hh : hi = 0
            · subst hh
              have hl0 : ¬ (lo : Int) = 0 := fun h => hz0 (by rw [show lo = 0 by omega])
              clear hz0
              go_wp2_with fail
              go_meet
              exact ⟨rfl, hb4.out⟩
            · have hh0 : ¬ (hi : Int) = 0 := by omega
              clear hz0
              go_wp2_with fail
              go_meet
              exact ⟨rfl, hb4.out⟩
          · clear hz0
            go_wp2_with fail
            go_meet
            exact ⟨rfl, hb4.out⟩
        · obtain rfl : false = B5 := hB5
          have hz0 := of_decide_eq_true hez
          obtain ⟨rfl, rfl, rfl⟩ : v6 = false ∧ hi = 0 ∧ lo = 0 := by cases hz0; exact ⟨rfl, rfl, rfl⟩
          clear hez hz0
          go_wp2_with fail
          go_meet
          exact ⟨rfl, hb4.out⟩
  case rest =>
  obtain ⟨rfl, hb4⟩ := hcut
  have hr5 := hr4.out
  have hg4 := blk_below hb4 hz3 hg3.out
  have hl4 := hl3.out.below (hb4.mono (by omega))
  have hB4w := hB3w.out.trans (hb4.mono (by have := hB3w.out.size; omega))
  have hz4 : z < wc.heap.size := Conf18.lt_of_blk hg4
  clear hr4 hB5 hez hek4 hgc3 qA hb4 hg3 hl3 hB3w
  cases B5
  case true =>
    obtain rfl : 18 = r := by rw [← hr5]; rfl
    replace hB4w := hide hB4w
    go_wp2_with fail
    go_ret
    exact ⟨rfl, hB4w.out⟩
  case false =>
  simp only [Bool.false_eq_true, ↓reduceIte] at hr5
  have hrY : ∀ (j : Nat) (x : Nd), l[j]? = some x → clash ⟨nm, kd, ab, wt, ⟨v6, hi, lo⟩⟩ x = true → r = 8 := by
    intro j x hj hc
    rw [← hr5, if_pos (List.any_eq_true.2 ⟨x, List.mem_of_getElem? hj, hc⟩)]
  have hrN : (∀ (j : Nat) (x : Nd), l[j]? = some x → clash ⟨nm, kd, ab, wt, ⟨v6, hi, lo⟩⟩ x = false) → r = 0 := by
    intro h
    rw [← hr5, if_neg]
    intro h2
    obtain ⟨x, hx, hc⟩ := List.any_eq_true.1 h2
    obtain ⟨j, hj⟩ := List.mem_iff_getElem?.1 hx
    rw [h j x hj] at hc
    cases hc
  clear hr5
  obtain ⟨w5, hw5⟩ : ∃ w5, wc = w5 := ⟨_, rfl⟩
  rw [hw5] at hg4 hl4 hB4w hz4 ⊢
  clear hw5
  replace hg4 := hide hg4
  replace hl4 := hide hl4
  replace hB4w := hide hB4w
  replace hrY := hide hrY
  replace hrN := hide hrN
  go_wp2_with fail
  go_loopw [4, 6, 99] (fun _ _ iv wr => ∃ i : Nat, i ≤ k ∧ iv = .int .i64 (i : Int) ∧ (∀ (j : Nat) (x : Nd), j < i → l[j]? = some x → clash ⟨nm, kd, ab, wt, ⟨v6, hi, lo⟩⟩ x = false) ∧ Below w5.heap.size w5 wr) (fun _ _ iv _ => k - (intOf iv).toNat)
  case atStart => exact ⟨0, by omega, rfl, fun j x hj => by omega, Below.refl _ _⟩
  case round =>
    obtain ⟨i, hi', rfl, hno, hbr⟩ := hrel
    have hzr := hbr.size
    by_cases hin : i < k
    · have hlt : (i : Int) < (k : Int) := by omega
      obtain ⟨b, off, x, rfl, hbk, hni, hcell⟩ := IsT.at (f := ndC) (size := 7) (fun _ => rfl) (by decide) (hl4.out.below (hbr.mono (by omega))) hin
      have hrX := hrY.out i x hni
      have hno2 : clash ⟨nm, kd, ab, wt, ⟨v6, hi, lo⟩⟩ x = false → ∀ (j : Nat) (y : Nd), j < i + 1 → l[j]? = some y → clash ⟨nm, kd, ab, wt, ⟨v6, hi, lo⟩⟩ y = false := by
        intro hc j y hj hd
        by_cases hji : j = i
        · subst hji
          obtain rfl := Option.some.inj (hni.symm.trans hd)
          exact hc
        · exact hno j y (by omega) hd
      clear hno hni
      obtain ⟨xn, xk, xab, xw, ⟨xv, xh, xl⟩⟩ := x
      have y0 : wr.cell? ⟨b, off + i * 7, none⟩ = some (.string (str xn)) := hcell 0 _ rfl
      have y1 : wr.cell? ⟨b, off + i * 7 + 1, none⟩ = some (.int .i64 xk) := hcell 1 _ rfl
      have y2 : wr.cell? ⟨b, off + i * 7 + 2, none⟩ = some (.int .i64 xab) := hcell 2 _ rfl
      have y3 : wr.cell? ⟨b, off + i * 7 + 3, none⟩ = some (.int .i64 xw) := hcell 3 _ rfl
      have y4 : wr.cell? ⟨b, off + i * 7 + 4, none⟩ = some (.bool xv) := hcell 4 _ rfl
      have y5 : wr.cell? ⟨b, off + i * 7 + 5, none⟩ = some (.int .u64 (xh : Int)) := hcell 5 _ rfl
      have y6 : wr.cell? ⟨b, off + i * 7 + 6, none⟩ = some (.int .u64 (xl : Int)) := hcell 6 _ rfl
      clear hcell
      have te : ((str xn).toList == (str nm).toList) = decide (xn = nm) := by
        rw [show (str nm).toList = nm by simp [str, ByteArray.toList_eq]]
        exact eqw xn nm
      have wi1 : IntKind.i64.wrap ((i : Int) + 1) = ((i + 1 : Nat) : Int) := by rw [wraps62 _ (by omega) (by omega)]; omega
      replace hbr := hide hbr
      replace hrX := hide hrX
      replace hno2 := hide hno2
      go_upto_region 14 with fail
      apply wp_region_lit
      iterate 2 (refine wpList_plain rfl fun K hK => ?_; go_simp; refine hK _ _ ?_; clear hK K)
      refine wpl_new rfl rfl 68 _ (Conf18.alloc_nd _ rfl) 6 rfl (.tmp 102) rfl _ (fun _ => rfl) (fun _ => rfl) rfl (by kernel_rfl) (nd_one (str xn) xk xab xw xv (xh : Int) (xl : Int)) ?_
      intro w6 hg6 hb6 hz6
      refine wpList_nil ?_
      go_simp
      have hgx := blk_cell hg6
      have hgz := blk_cell (blk_below hb6 (by omega) (blk_below hbr.out (by omega) hg4.out))
      have hb6' := hbr.out.trans (hb6.mono (by omega))
      have hbW := hB4w.out.trans (hb6'.mono (by have := hB4w.out.size; omega))
      clear y0 y1 y2 y3 y4 y5 y6 hg6 hb6 hbr
      obtain ⟨CB, hCB⟩ : ∃ b, clash ⟨nm, kd, ab, wt, ⟨v6, hi, lo⟩⟩ ⟨xn, xk, xab, xw, ⟨xv, xh, xl⟩⟩ = b := ⟨_, rfl⟩
      have hrX2 := hrX.out
      have hno3 := hno2.out
      rw [hCB] at hrX2 hno3
      clear hrX hno2
      obtain ⟨bn, hbn⟩ : ∃ b, decide (xn = nm) = b := ⟨_, rfl⟩
      rw [hbn] at te
      obtain ⟨b4, hb4'⟩ : ∃ b, (kd == 4) = b := ⟨_, rfl⟩
      obtain ⟨bx, hbx⟩ : ∃ b, (xk == 4) = b := ⟨_, rfl⟩
      obtain ⟨ba, hba⟩ : ∃ b, decide ((⟨xv, xh, xl⟩ : Adr) = ⟨v6, hi, lo⟩) = b := ⟨_, rfl⟩
      have hCB2 : (bn || ((b4 && bx) && ba)) = CB := by
        rw [← hCB, ← hbn, ← hb4', ← hbx, ← hba]
        unfold clash
        apply Bool.eq_iff_iff.2
        simp [and_assoc]
      clear hCB
      replace hb6' := hide hb6'
      replace hbW := hide hbW
      replace hrX2 := hide hrX2
      replace hno3 := hide hno3
      go_upto_region 15 with fail
      go_cut [124] from 103 to 123 (fun bv wx => bv = .bool CB ∧ w6 = wx)
      case first =>
        clear hrX2 hno3
        cases bn
        · cases b4
          · obtain rfl : false = CB := hCB2
            go_wp2_with fail
            go_meet
            exact ⟨rfl, rfl⟩
          · cases bx
            · obtain rfl : false = CB := hCB2
              go_wp2_with fail
              go_meet
              exact ⟨rfl, rfl⟩
            · obtain rfl : ba = CB := hCB2
              cases ba
              · have hz0 := of_decide_eq_false hba
                clear hba
                by_cases hv : xv = v6
                · subst hv
                  by_cases hh : xh = hi
                  · subst hh
                    have hl0 : ¬ (xl : Int) = (lo : Int) := fun h => hz0 (by rw [show xl = lo by omega])
                    clear hz0
                    go_wp2_with fail
                    go_meet
                    exact ⟨rfl, rfl⟩
                  · have hh0 : ¬ (xh : Int) = (hi : Int) := by omega
                    clear hz0
                    go_wp2_with fail
                    go_meet
                    exact ⟨rfl, rfl⟩
                · clear hz0
                  go_wp2_with fail
                  go_meet
                  exact ⟨rfl, rfl⟩
              · have hz0 := of_decide_eq_true hba
                obtain ⟨rfl, rfl, rfl⟩ : xv = v6 ∧ xh = hi ∧ xl = lo := by cases hz0; exact ⟨rfl, rfl, rfl⟩
                clear hba hz0
                go_wp2_with fail
                go_meet
                exact ⟨rfl, rfl⟩
        · obtain rfl : true = CB := by rw [← hCB2]; rfl
          go_wp2_with fail
          go_meet
          exact ⟨rfl, rfl⟩
      case rest =>
      obtain ⟨rfl, rfl⟩ := hcut
      clear hCB2 te hbn hb4' hbx hba hgx hgz
      cases CB
      · have hn4 := hno3.out rfl
        clear hno3 hrX2
        replace hn4 := hide hn4
        go_wp2_with fail
        exact ⟨⟨i + 1, by omega, by first | rfl | go_num, hn4.out, hb6'.out⟩, by simp only [intOf]; omega⟩
      · have e8 := hrX2.out rfl
        clear hno3 hrX2
        replace e8 := hide e8
        go_wp2_with fail
        refine bodyPost_ret (v := .int .i64 8) (by simp [results, Tryz.results53, go_sem]) rfl ⟨by rw [e8.out]; rfl, by rw [hz]; exact hbW.out⟩
    · obtain rfl : i = k := by omega
      have hlt : ((i : Int) < (i : Int)) = False := by simp
      have e0 := hrN.out (fun j x hj => hno j x (by have := (List.getElem?_eq_some_iff.1 hj).1; omega) hj)
      have hbW := hB4w.out.trans (hbr.mono (by have := hB4w.out.size; omega))
      clear hno hbr
      replace e0 := hide e0
      replace hbW := hide hbW
      go_wp2_with fail
      refine bodyPost_ret (v := .int .i64 0) (by simp [results, Tryz.results53, go_sem]) rfl ⟨by rw [e0.out]; rfl, by rw [hz]; exact hbW.out⟩
end Tree16
end Go.Proofs.YtcpokkkdmenmgaaGreatDoor
/- tree: a tree in memory: its nodes, and rows of places that lie apart. No condition. -/
namespace Go.Proofs.YtcpokkkdmenmgaaGreatDoor
open Go.RowKit Go.ChangeShapes Go.WideShapes Go.ChangeAt Go.Deep
namespace Tree16
open Conf18 (Nd ndC lt_of_blk)
def intv (n : Int) : Value := .int .i64 n
/-- Rows of numbers that lie apart. -/
structure Rows (w : World) (base : Nat) (vs : List Value) (xs : List (List Int)) : Prop where
  len : vs.length = xs.length
  own : ∀ (i : Nat) (v : Value) (x : List Int), vs[i]? = some v → xs[i]? = some x → w.ownsRow base 3 1 v x.length (x.map intv)
  apart : ∀ (i j : Nat) (v u : Value) (g : Nat), vs[i]? = some v → vs[j]? = some u → v.ownBlock = some g → u.ownBlock = some g → i = j
section
variable {w w' : World} {base : Nat} {vs : List Value} {xs : List (List Int)}
theorem Rows.kept {row : Option Nat} (h : Rows w base vs xs) (hg : w.grownBy w' row) (hne : ∀ (i : Nat) (v : Value) (g : Nat), vs[i]? = some v → v.ownBlock = some g → row ≠ some g) : Rows w' base vs xs := by
  refine ⟨h.len, fun i v x h1 h2 => ?_, h.apart⟩
  refine World.ownsRow.kept (h.own i v x h1 h2) hg ?_
  rcases hb : v.ownBlock with _ | g
  · exact .inl rfl
  · exact .inr fun e => hne i v g h1 hb e.symm
theorem Rows.on (h : Rows w base vs xs) (hb : Below w.heap.size w w') : Rows w' base vs xs := ⟨h.len, fun i v x h1 h2 => row_on (h.own i v x h1 h2) hb, h.apart⟩
theorem Rows.lt (h : Rows w base vs xs) {i g : Nat} {v : Value} (h1 : vs[i]? = some v) (h2 : v.ownBlock = some g) : base ≤ g ∧ g < w.heap.size := by
  have hl := (List.getElem?_eq_some_iff.1 h1).1
  exact World.ownsRow.lt (h.own i v _ h1 (List.getElem?_eq_getElem (by rw [← h.len]; exact hl))) _ h2
/-- One of the rows grows. -/
theorem Rows.grow (h : Rows w base vs xs) {i : Nat} {v v' : Value} {x x' : List Int} (hv : vs[i]? = some v) (hx : xs[i]? = some x) (ho : w'.ownsRow base 3 1 v' x'.length (x'.map intv)) (hg : Grew w v w' v') : Rows w' base (vs.set i v') (xs.set i x') := by
  have hi := (List.getElem?_eq_some_iff.1 hv).1
  have hix := (List.getElem?_eq_some_iff.1 hx).1
  have hmv : ∀ (j g : Nat) (u : Value), j ≠ i → vs[j]? = some u → u.ownBlock = some g → v'.ownBlock ≠ some g := by
    intro j g u hj h1 h2 h3
    rcases hg.moved with h4 | ⟨k, h4, h5⟩
    · rw [h3] at h4
      exact hj (h.apart j i u v g h1 hv h2 h4.symm)
    · rw [h3] at h4
      have := (h.lt h1 h2).2
      have : g = k := by simpa using h4
      omega
  refine ⟨by rw [List.length_set, List.length_set, h.len], fun j u y h1 h2 => ?_, fun j k u u' g h1 h2 h3 h4 => ?_⟩
  · by_cases hj : j = i
    · subst hj
      rw [List.getElem?_set_self hi] at h1
      rw [List.getElem?_set_self hix] at h2
      cases h1; cases h2
      exact ho
    · rw [List.getElem?_set_ne (Ne.symm hj)] at h1 h2
      refine World.ownsRow.kept (h.own j u y h1 h2) hg.grown ?_
      rcases hb : u.ownBlock with _ | g
      · exact .inl rfl
      · exact .inr fun e => hj (h.apart j i u v g h1 hv hb e.symm)
  · by_cases hj : j = i
    · by_cases hk : k = i
      · omega
      · subst hj
        rw [List.getElem?_set_self hi] at h1
        rw [List.getElem?_set_ne (Ne.symm hk)] at h2
        cases h1
        exact absurd h3 (hmv k g u' hk h2 h4)
    · by_cases hk : k = i
      · subst hk
        rw [List.getElem?_set_self hi] at h2
        rw [List.getElem?_set_ne (Ne.symm hj)] at h1
        cases h2
        exact absurd h4 (hmv j g u hj h1 h3)
      · rw [List.getElem?_set_ne (Ne.symm hj)] at h1
        rw [List.getElem?_set_ne (Ne.symm hk)] at h2
        exact h.apart j k u u' g h1 h2 h3 h4
/-- One more row, without any. -/
theorem Rows.more (h : Rows w base vs xs) : Rows w base (vs ++ [.slice none 0 0]) (xs ++ [[]]) := by
  have hnil : ∀ (j g : Nat) (u : Value), vs.length ≤ j → (vs ++ [.slice none 0 0])[j]? = some u → u.ownBlock = some g → False := by
    intro j g u hj h1 h2
    rw [List.getElem?_append_right hj] at h1
    have hl := (List.getElem?_eq_some_iff.1 h1).1
    have : j - vs.length = 0 := by simpa using hl
    rw [this] at h1
    cases h1
    cases h2
  refine ⟨by simp [h.len], fun j u y h1 h2 => ?_, fun j k u u' g h1 h2 h3 h4 => ?_⟩
  · by_cases hj : j < vs.length
    · rw [List.getElem?_append_left hj] at h1
      rw [List.getElem?_append_left (by rw [← h.len]; exact hj)] at h2
      exact h.own j u y h1 h2
    · rw [List.getElem?_append_right (by omega)] at h1
      rw [List.getElem?_append_right (by rw [← h.len]; omega)] at h2
      have hl := (List.getElem?_eq_some_iff.1 h1).1
      have e : j - vs.length = 0 := by simpa using hl
      rw [e] at h1
      rw [← h.len, e] at h2
      cases h1; cases h2
      exact World.ownsRow_nil _ _ _ _
  · by_cases hj : j < vs.length
    · by_cases hk : k < vs.length
      · rw [List.getElem?_append_left hj] at h1
        rw [List.getElem?_append_left hk] at h2
        exact h.apart j k u u' g h1 h2 h3 h4
      · exact (hnil k g u' (by omega) h2 h4).elim
    · exact (hnil j g u (by omega) h1 h3).elim
end
/-- A tree in memory. -/
structure TreeC (w : World) (base x : Nat) (ns : List Nd) (nv kv tv hv : Value) (us : List Value) : Prop where
  blk : w.heap[x]? = some (.cells #[nv, kv, tv, hv] 90 (0, 0))
  hx : base ≤ x
  nodes : w.ownsRow base 68 7 nv ns.length (ns.map ndC).flatten
  kids : w.ownsRow base 88 1 kv ns.length us
  rows : Rows w base (tv :: hv :: us) (topF ns :: hostsF ns :: (List.range ns.length).map (kidsF ns))
  small : ns.length ≤ 1024 ∧ (∀ n ∈ ns, n.above < (ns.length : Int))
def TreeAt (w : World) (base x : Nat) (ns : List Nd) : Prop := ∃ nv kv tv hv us, TreeC w base x ns nv kv tv hv us
theorem TreeC.on {w w' : World} {base x : Nat} {ns : List Nd} {nv kv tv hv : Value} {us : List Value} (h : TreeC w base x ns nv kv tv hv us) (hb : Below w.heap.size w w') : TreeC w' base x ns nv kv tv hv us :=
  ⟨(hb.block x (lt_of_blk h.blk)).trans h.blk, h.hx, row_on h.nodes hb, row_on h.kids hb, h.rows.on hb, h.small⟩
end Tree16
end Go.Proofs.YtcpokkkdmenmgaaGreatDoor
/- tree: Len, Node, Find, Levels. Condition: fewer than 2^40 nodes. -/
namespace Go.Proofs.YtcpokkkdmenmgaaGreatDoor
open Go.RowKit Go.ChangeShapes Go.WideShapes Go.ChangeAt Go.Deep
namespace Tree16
open Conf18 (Nd zA ndC nd_one eqw lt_of_blk)
def findF (ns : List Nd) (s : List UInt8) : Int := match ns.findIdx? (fun n => decide (n.name = s)) with | some k => (k : Int) | none => -1
theorem findF_hit {ns : List Nd} {s : List UInt8} {k : Nat} {nd : Nd} (hk : ns[k]? = some nd) (h3 : nd.name = s) (h4 : ∀ (j : Nat) (nd' : Nd), j < k → ns[j]? = some nd' → nd'.name ≠ s) : findF ns s = (k : Int) := by
  obtain ⟨hkl, hke⟩ := List.getElem?_eq_some_iff.1 hk
  have e : ns.findIdx? (fun n => decide (n.name = s)) = some k := by
    rw [List.findIdx?_eq_some_iff_getElem]
    refine ⟨hkl, by rw [hke]; simp [h3], fun j hj => ?_⟩
    have := h4 j _ hj (List.getElem?_eq_getElem (by omega))
    simpa using this
  unfold findF
  rw [e]
theorem findF_miss {ns : List Nd} {s : List UInt8} (h4 : ∀ (j : Nat) (nd' : Nd), ns[j]? = some nd' → nd'.name ≠ s) : findF ns s = -1 := by
  have e : ns.findIdx? (fun n => decide (n.name = s)) = none := by
    rw [List.findIdx?_eq_none_iff]
    intro nd hn
    obtain ⟨j, hj⟩ := List.mem_iff_getElem?.1 hn
    simpa using h4 j nd hj
  unfold findF
  rw [e]
set_option maxRecDepth 20000 in
set_option maxHeartbeats 8000000 in
theorem find1_any (n : Nd) (s : List UInt8) (z : Nat) (w : World) (hc : w.cell? ⟨z, 0, none⟩ = some (.string (str s))) (hz : z < w.heap.size) :
    Calls Tryz.prog 31 #[.agg (ndA n), .pointer (some ⟨z, 0, none⟩)] w fun e w' => e = .returned (.bool (decide (n.name = s))) ∧ Below w.heap.size w w' := by
  obtain ⟨nm, kd, ab, wt, ⟨v6, hi, lo⟩⟩ := n
  unfold ndA
  dsimp only
  obtain ⟨w1, hw1⟩ : ∃ w1, w.alloc (.cells #[.string (str nm), .int .i64 kd, .int .i64 ab, .int .i64 wt, .bool v6, .int .u64 (hi : Int), .int .u64 (lo : Int)] 68) = w1 := ⟨_, rfl⟩
  have hb1 : Below w.heap.size w w1 := hw1 ▸ (Below.refl _ _).alloc (Nat.le_refl _) _
  have hg1 : w1.heap[w.heap.size]? = some (.cells #[.string (str nm), .int .i64 kd, .int .i64 ab, .int .i64 wt, .bool v6, .int .u64 (hi : Int), .int .u64 (lo : Int)] 68 (0, 0)) := hw1 ▸ blk_new _ _ _
  have c0 := blk_cell hg1 0
  have c1 := (hb1.cell (p := ⟨z, 0, none⟩) hz).trans hc
  have te := eqw nm s
  have hst : (str s).toList = s := by simp [str, ByteArray.toList_eq]
  rw [← hst] at te
  have te2 : ((str nm).toList == (str s).toList) = decide (nm = s) := by
    rw [te]
    congr 1
    rw [hst]
  clear te hst hg1
  obtain ⟨b, hb⟩ : ∃ b, decide (nm = s) = b := ⟨_, rfl⟩
  rw [hb] at te2 ⊢
  replace hb1 := hide hb1
  go_enter Tryz.func31, Tryz.ntmps31
  go_upto_region 1 with fail
  clear hw1
  go_wp2_with fail
  go_ret
  exact ⟨rfl, hb1.out⟩
set_option maxRecDepth 20000 in
set_option maxHeartbeats 8000000 in
theorem index_any (ns : List Nd) (s : List UInt8) (z k cap : Nat) (A : Option Addr) (w : World) (hl : IsT ndC 7 w w.heap.size A k ns) (hk : k ≤ 1099511627776) (hc : w.cell? ⟨z, 0, none⟩ = some (.string (str s))) (hz : z < w.heap.size) :
    Calls Tryz.prog 30 #[.slice A k cap, .func (.func 31) #[] #[.pointer (some ⟨z, 0, none⟩)]] w fun e w' => e = .returned (.int .i64 (findF ns s)) ∧ Below w.heap.size w w' := by
  obtain ⟨X, hX⟩ : ∃ X, findF ns s = X := ⟨_, rfl⟩
  have hX1 := fun k nd a b c => hX.symm.trans (findF_hit (ns := ns) (s := s) (k := k) (nd := nd) a b c)
  have hX2 := fun h => hX.symm.trans (findF_miss (ns := ns) (s := s) h)
  rw [hX]
  clear hX
  have hlen := hl.1
  replace hl := hide hl
  replace hX1 := hide hX1
  replace hX2 := hide hX2
  replace hc := hide hc
  go_enter Tryz.func30, Tryz.ntmps30
  go_wp2_with fail
  go_loopw [5, 8] (fun _ iv wr => ∃ i : Nat, i ≤ k ∧ iv = .int .i64 (i : Int) ∧ (∀ (j : Nat) (nd' : Nd), j < i → ns[j]? = some nd' → nd'.name ≠ s) ∧ Below w.heap.size w wr) (fun _ iv _ => k - (intOf iv).toNat)
  case atStart => exact ⟨0, by omega, rfl, fun j nd hj => by omega, Below.refl _ _⟩
  case round =>
    obtain ⟨i, hi, rfl, hno, hB⟩ := hrel
    by_cases hin : i < k
    · have hlt : (i : Int) < (k : Int) := by omega
      obtain ⟨b, off, nd, rfl, hbk, hni, hcell⟩ := IsT.at (f := ndC) (size := 7) (fun _ => rfl) (by decide) (hl.out.below hB) hin
      have hcz := (hB.cell (p := ⟨z, 0, none⟩) hz).trans hc.out
      have hsz := hB.size
      have q := find1_any nd s z wr hcz (by omega)
      have wi1 : IntKind.i64.wrap ((i : Int) + 1) = ((i + 1 : Nat) : Int) := by rw [wraps62 _ (by omega) (by omega)]; omega
      have hXi := fun he => hX1.out i nd hni he hno
      have hno2 : ¬ nd.name = s → ∀ (j : Nat) (nd' : Nd), j < i + 1 → ns[j]? = some nd' → nd'.name ≠ s := by
        intro he j nd' hj hd
        by_cases hji : j = i
        · subst hji
          obtain rfl := Option.some.inj (hni.symm.trans hd)
          exact he
        · exact hno j nd' (by omega) hd
      obtain ⟨bv, hbv⟩ : ∃ bv, decide (nd.name = s) = bv := ⟨_, rfl⟩
      rw [hbv] at q
      have e1 : bv = true → X = (i : Int) := fun h => hXi (of_decide_eq_true (hbv.trans h))
      have e2 : bv = false → ∀ (j : Nat) (nd' : Nd), j < i + 1 → ns[j]? = some nd' → nd'.name ≠ s := fun h => hno2 (of_decide_eq_false (hbv.trans h))
      clear hXi hno2 hno hbv hni hcz
      obtain ⟨nm, kd, ab, wt, ⟨v6, hi', lo⟩⟩ := nd
      have y0 : wr.cell? ⟨b, off + i * 7, none⟩ = some (.string (str nm)) := hcell 0 _ rfl
      have y1 : wr.cell? ⟨b, off + i * 7 + 1, none⟩ = some (.int .i64 kd) := hcell 1 _ rfl
      have y2 : wr.cell? ⟨b, off + i * 7 + 2, none⟩ = some (.int .i64 ab) := hcell 2 _ rfl
      have y3 : wr.cell? ⟨b, off + i * 7 + 3, none⟩ = some (.int .i64 wt) := hcell 3 _ rfl
      have y4 : wr.cell? ⟨b, off + i * 7 + 4, none⟩ = some (.bool v6) := hcell 4 _ rfl
      have y5 : wr.cell? ⟨b, off + i * 7 + 5, none⟩ = some (.int .u64 (hi' : Int)) := hcell 5 _ rfl
      have y6 : wr.cell? ⟨b, off + i * 7 + 6, none⟩ = some (.int .u64 (lo : Int)) := hcell 6 _ rfl
      unfold ndA at q
      dsimp only at q
      clear hcell
      replace q := hide q
      replace e1 := hide e1
      replace e2 := hide e2
      replace hB := hide hB
      cases bv
      · have e3 := e2.out rfl
        clear e1 e2
        replace e3 := hide e3
        go_wp2_with fail
        refine (q.out).mono ?_
        rintro e w2 ⟨rfl, hb2⟩
        clear y0 y1 y2 y3 y4 y5 y6 q
        go_wp2_with fail
        exact ⟨⟨i + 1, by omega, by first | rfl | go_num, e3.out, hB.out.trans (hb2.mono hsz)⟩, by simp only [intOf]; omega⟩
      · obtain rfl := e1.out rfl
        clear e1 e2
        go_wp2_with fail
        refine (q.out).mono ?_
        rintro e w2 ⟨rfl, hb2⟩
        clear y0 y1 y2 y3 y4 y5 y6 q
        go_wp2_with fail
        go_ret
        exact ⟨rfl, hB.out.trans (hb2.mono hsz)⟩
    · obtain rfl : i = k := by omega
      have hlt : ((i : Int) < (i : Int)) = False := by simp
      have hXn := hX2.out (fun j nd' hd => by
        by_cases hj : j < i
        · exact hno j nd' hj hd
        · have h5 := (List.getElem?_eq_some_iff.1 hd).1
          omega)
      clear hno
      replace hXn := hide hXn
      replace hB := hide hB
      go_wp2_with fail
      go_ret
      exact ⟨by rw [hXn.out]; rfl, hB.out⟩
/-- Find. -/
theorem find_any (ns : List Nd) (s : List UInt8) (base x : Nat) (w : World) (hT : TreeAt w base x ns) :
    Calls Tryz.prog 24 #[.pointer (some ⟨x, 0, none⟩), .string (str s)] w fun e w' => e = .returned (.int .i64 (findF ns s)) ∧ Below w.heap.size w w' := by
  obtain ⟨w1, hw1⟩ : ∃ w1, w.alloc (.cells #[.string (str s)] 9) = w1 := ⟨_, rfl⟩
  have hb1 : Below w.heap.size w w1 := hw1 ▸ (Below.refl _ _).alloc (Nat.le_refl _) _
  have hg1 : w1.heap[w.heap.size]? = some (.cells #[.string (str s)] 9 (0, 0)) := hw1 ▸ blk_new _ _ _
  obtain ⟨nv, kv, tv, hv, us, hC⟩ := hT
  have hsm := hC.small.1
  have hC1 := hC.on hb1
  obtain ⟨An, cn, hnv, h1, h2, hvn⟩ := own_isv hC1.nodes
  have k0 := blk_cell hC1.blk 0
  subst hnv
  have q := index_any ns s w.heap.size ns.length cn An w1 ⟨rfl, hvn⟩ (by omega) (blk_cell hg1 0) (lt_of_blk hg1)
  clear hC hC1 hvn hg1
  replace q := hide q
  replace hb1 := hide hb1
  go_enter Tryz.func24, Tryz.ntmps24
  go_upto_region 1 with fail
  clear hw1
  go_wp2_with fail
  refine (q.out).mono ?_
  rintro e w2 ⟨rfl, hb2⟩
  go_wp2_with fail
  go_ret
  exact ⟨rfl, hb1.out.trans (hb2.mono hb1.out.size)⟩
theorem len_any (ns : List Nd) (base x : Nat) (w : World) (hT : TreeAt w base x ns) :
    Calls Tryz.prog 41 #[.pointer (some ⟨x, 0, none⟩)] w fun e w' => e = .returned (.int .i64 (ns.length : Int)) ∧ w' = w := by
  obtain ⟨nv, kv, tv, hv, us, hC⟩ := hT
  obtain ⟨An, cn, hnv, h1, h2, hvn⟩ := own_isv hC.nodes
  have k0 := blk_cell hC.blk 0
  subst hnv
  clear hC hvn
  go_enter Tryz.func41, Tryz.ntmps41
  go_wp2_with fail
  go_ret
  exact ⟨rfl, rfl⟩
/-- The node of a place; the zero one, if there is none. -/
def nodeF (ns : List Nd) (i : Int) : Nd := if i < 0 ∨ (ns.length : Int) ≤ i then ⟨[], 0, 0, 0, zA⟩ else ns.getD i.toNat ⟨[], 0, 0, 0, zA⟩
set_option maxRecDepth 20000 in
set_option maxHeartbeats 8000000 in
theorem node_any (ns : List Nd) (i : Int) (base x : Nat) (w : World) (hT : TreeAt w base x ns) :
    Calls Tryz.prog 27 #[.pointer (some ⟨x, 0, none⟩), .int .i64 i] w fun e w' => e = .returned (.agg (ndA (nodeF ns i))) ∧ Below w.heap.size w w' := by
  obtain ⟨w1, hw1⟩ : ∃ w1, w.alloc (.cells #[.string ⟨#[]⟩, .int .i64 0, .int .i64 0, .int .i64 0, .bool false, .int .u64 0, .int .u64 0] 68) = w1 := ⟨_, rfl⟩
  have hb1 : Below w.heap.size w w1 := hw1 ▸ (Below.refl _ _).alloc (Nat.le_refl _) _
  have hg1 : w1.heap[w.heap.size]? = some (.cells #[.string ⟨#[]⟩, .int .i64 0, .int .i64 0, .int .i64 0, .bool false, .int .u64 0, .int .u64 0] 68 (0, 0)) := hw1 ▸ blk_new _ _ _
  have hsz1 := lt_of_blk hg1
  have hT1 : TreeAt w1 base x ns := by
    obtain ⟨nv, kv, tv, hv, us, hC⟩ := hT
    exact ⟨nv, kv, tv, hv, us, hC.on hb1⟩
  have ql := len_any ns base x w1 hT1
  obtain ⟨nv, kv, tv, hv, us, hC⟩ := hT1
  have hsm := hC.small.1
  obtain ⟨An, cn, hnv, h1, h2, hvn⟩ := own_isv hC.nodes
  have k0 := blk_cell hC.blk 0
  subst hnv
  have hl : IsT ndC 7 w1 w1.heap.size An ns.length ns := ⟨rfl, hvn⟩
  obtain ⟨N, hN⟩ : ∃ N, nodeF ns i = N := ⟨_, rfl⟩
  rw [hN]
  obtain ⟨L, hL⟩ : ∃ L, ns.length = L := ⟨_, rfl⟩
  unfold nodeF at hN
  rw [hL] at hN k0 hl ql hsm
  clear hC hvn hT
  replace hb1 := hide hb1
  replace hg1 := hide hg1
  replace hl := hide hl
  replace ql := hide ql
  by_cases hi : i < 0 ∨ (L : Int) ≤ i
  · rw [if_pos hi] at hN
    subst hN
    have t1 : (decide (i < 0) || decide ((L : Int) ≤ i)) = true := by simpa using hi
    obtain ⟨b1, hb⟩ : ∃ b, decide (i < 0) = b := ⟨_, rfl⟩
    obtain ⟨b2, hb2⟩ : ∃ b, decide ((L : Int) ≤ i) = b := ⟨_, rfl⟩
    rw [hb, hb2] at t1
    go_enter Tryz.func27, Tryz.ntmps27
    go_upto_region 1 with fail
    clear hw1
    go_cut [12] (fun bv wx => bv = .bool true ∧ w1 = wx)
    case first =>
      cases b1
      · obtain rfl : b2 = true := t1
        go_wp2_with fail
        refine (ql.out).mono ?_
        rintro e w1 ⟨rfl, rfl⟩
        go_wp2_with fail
        go_meet
        exact ⟨rfl, rfl⟩
      · go_wp2_with fail
        go_meet
        exact ⟨rfl, rfl⟩
    case rest =>
    obtain ⟨rfl, rfl⟩ := hcut
    go_upto_region 2 with fail
    apply wp_region_lit
    iterate 1 (refine wpList_plain rfl fun K hK => ?_; go_simp; refine hK _ _ ?_; clear hK K)
    refine wpl_st rfl 68 (.tmp 4) (.tmp 13) rfl (w.heap.size) 0 rfl (#[.string ⟨#[]⟩, .int .i64 0, .int .i64 0, .int .i64 0, .bool false, .int .u64 0, .int .u64 0]) rfl hg1.out (by simp) (by kernel_rfl) (nd_one _ _ _ _ _ _ _) fun w9 hg9 g9 => ?_
    rw [putA_whole _ _ (by rfl)] at hg9
    have hb9 : Below (w.heap.size) w w9 := (hb1.out).trans (below_grown g9 (by have := (hb1.out).size; omega) (Nat.le_refl _))
    have hld : (loadVar 68 ⟨w.heap.size, 0, none⟩).run Tryz.prog w9 = .ok (.agg (#[.string ⟨#[]⟩, .int .i64 0, .int .i64 0, .int .i64 0, .bool false, .int .u64 0, .int .u64 0])) w9 := by
      simpa using run_loadVar_mid w9 (w.heap.size) 0 68 (#[.string ⟨#[]⟩, .int .i64 0, .int .i64 0, .int .i64 0, .bool false, .int .u64 0, .int .u64 0]).toList _ (blk_range hg9) Tryz.underlying68 rfl (by kernel_rfl)
    clear hg9 g9
    replace hld := hide hld
    replace hb9 := hide hb9
    refine wpList_nil ?_
    go_simp
    go_wp2_with fail
    exact bodyPost_ret (v := .agg (ndA ⟨[], 0, 0, 0, zA⟩)) (by simp [results, Tryz.results27, asAddr, hld.out, Result.andThen, ndA, str]) rfl ⟨rfl, hb9.out⟩
  · rw [if_neg hi] at hN
    have t1 : decide (i < 0) = false := by simp; omega
    have t2 : decide ((L : Int) ≤ i) = false := by simp; omega
    obtain ⟨j, rfl⟩ : ∃ j : Nat, i = (j : Int) := ⟨i.toNat, by omega⟩
    have hj : j < L := by omega
    obtain ⟨b, off, n, rfl, hbl, hni, hcell⟩ := IsT.at (f := ndC) (size := 7) (fun _ => rfl) (by decide) hl.out hj
    have hNe : N = n := by
      rw [← hN]
      show ns.getD j _ = n
      rw [List.getD_eq_getElem?_getD, hni]
      rfl
    subst hNe
    clear hN hni
    obtain ⟨nm, kd, ab, wt, ⟨v6, hi', lo⟩⟩ := N
    have y0 : w1.cell? ⟨b, off + j * 7, none⟩ = some (.string (str nm)) := hcell 0 _ rfl
    have y1 : w1.cell? ⟨b, off + j * 7 + 1, none⟩ = some (.int .i64 kd) := hcell 1 _ rfl
    have y2 : w1.cell? ⟨b, off + j * 7 + 2, none⟩ = some (.int .i64 ab) := hcell 2 _ rfl
    have y3 : w1.cell? ⟨b, off + j * 7 + 3, none⟩ = some (.int .i64 wt) := hcell 3 _ rfl
    have y4 : w1.cell? ⟨b, off + j * 7 + 4, none⟩ = some (.bool v6) := hcell 4 _ rfl
    have y5 : w1.cell? ⟨b, off + j * 7 + 5, none⟩ = some (.int .u64 (hi' : Int)) := hcell 5 _ rfl
    have y6 : w1.cell? ⟨b, off + j * 7 + 6, none⟩ = some (.int .u64 (lo : Int)) := hcell 6 _ rfl
    clear hcell
    unfold ndA
    dsimp only
    go_enter Tryz.func27, Tryz.ntmps27
    go_upto_region 1 with fail
    clear hw1
    go_cut [12] (fun bv wx => bv = .bool false ∧ w1 = wx)
    case first =>
      clear y0 y1 y2 y3 y4 y5 y6
      go_wp2_with fail
      refine (ql.out).mono ?_
      rintro e w1 ⟨rfl, rfl⟩
      go_wp2_with fail
      go_meet
      exact ⟨by rw [decide_eq_false (by omega)], rfl⟩
    case rest =>
    obtain ⟨rfl, rfl⟩ := hcut
    go_upto_region 3 with fail
    apply wp_region_lit
    iterate 7 (refine wpList_plain rfl fun K hK => ?_; go_simp; refine hK _ _ ?_; clear hK K)
    refine wpl_st rfl 68 (.tmp 4) (.tmp 20) rfl (w.heap.size) 0 rfl (#[.string (str nm), .int .i64 kd, .int .i64 ab, .int .i64 wt, .bool v6, .int .u64 (hi' : Int), .int .u64 (lo : Int)]) rfl hg1.out (by simp) (by kernel_rfl) (nd_one _ _ _ _ _ _ _) fun w9 hg9 g9 => ?_
    rw [putA_whole _ _ (by rfl)] at hg9
    have hb9 : Below (w.heap.size) w w9 := (hb1.out).trans (below_grown g9 (by have := (hb1.out).size; omega) (Nat.le_refl _))
    have hld : (loadVar 68 ⟨w.heap.size, 0, none⟩).run Tryz.prog w9 = .ok (.agg (#[.string (str nm), .int .i64 kd, .int .i64 ab, .int .i64 wt, .bool v6, .int .u64 (hi' : Int), .int .u64 (lo : Int)])) w9 := by
      simpa using run_loadVar_mid w9 (w.heap.size) 0 68 (#[.string (str nm), .int .i64 kd, .int .i64 ab, .int .i64 wt, .bool v6, .int .u64 (hi' : Int), .int .u64 (lo : Int)]).toList _ (blk_range hg9) Tryz.underlying68 rfl (by kernel_rfl)
    clear hg9 g9
    replace hld := hide hld
    replace hb9 := hide hb9
    refine wpList_nil ?_
    go_simp
    go_wp2_with fail
    exact bodyPost_ret (v := .agg #[.string (str nm), .int .i64 kd, .int .i64 ab, .int .i64 wt, .bool v6, .int .u64 (hi' : Int), .int .u64 (lo : Int)]) (by simp [results, Tryz.results27, asAddr, hld.out]) rfl ⟨rfl, hb9.out⟩
theorem infoT_int : (Tryz.prog.info? 3).map (fun i => (i.zero, i.size, i.bytes)) = some (some (.int .i64 0), 1, 8) := by kernel_rfl
set_option maxRecDepth 20000 in
set_option maxHeartbeats 8000000 in
theorem tclone_any (xs : List Value) (n c : Nat) (A : Option Addr) (w : World) (hx : IsV w w.heap.size 1 A n xs) (hn : n ≤ 1099511627776) (h1 : ∀ u ∈ xs, u.oneCell' = true) :
    Calls Tryz.prog 56 #[.slice A n c] w fun e w' => ∃ v, e = .returned v ∧ w'.ownsRow w.heap.size 3 1 v n xs ∧ Below w.heap.size w w' := by
  have q := fun (w : World) (a : Option Addr) (n c : Nat) => Lib.run_eql_slice_nil (P := Tryz.prog) w _ _ a n c 0 0 Tryz.underlying88
  rcases A with _ | ⟨b, off, pt⟩
  · have h0 : n = 0 := by
      rcases Nat.eq_zero_or_pos n with h | h
      · exact h
      · obtain ⟨b, off, e, -⟩ := hx.2 h
        cases e
    subst h0
    have hnil : xs = [] := by
      have := hx.1
      simpa using this
    subst hnil
    clear hx
    go_enter Tryz.func56, Tryz.ntmps56
    go_wp2_with fail
    go_ret
    exact ⟨_, rfl, World.ownsRow_nil _ _ _ _, Below.refl _ _⟩
  · obtain ⟨i, hi1, hz1, hsz, hbt⟩ := info_parts infoT_int
    have hb1 : Below w.heap.size w (w.alloc (.cells #[] 3)) := (Below.refl _ _).alloc (Nat.le_refl _) _
    have hx1 := hx.below hb1
    have ho : (w.alloc (.cells #[] 3)).ownsRow w.heap.size 3 1 (.slice (some ⟨w.heap.size, 0, none⟩) 0 0) 0 [] := World.ownsRow_made w #[] 0 (Nat.le_refl _) (Nat.zero_le _) rfl
    have hz := hb1.size
    replace hx := hide hx
    replace hx1 := hide hx1
    replace ho := hide ho
    replace hb1 := hide hb1
    go_enter Tryz.func56, Tryz.ntmps56
    go_upto_region 3 with fail
    apply wp_region_lit
    iterate 2 (refine wpList_plain rfl fun K hK => ?_; go_simp; refine hK _ _ ?_; clear hK K)
    refine wpl_append _ rfl (.tmp 5) (.tmp 6) 88 rfl w.heap.size 3 i _ 1 8 Tryz.underlying88 hi1 hz1 hsz hbt rfl (by decide) _ 0 [] rfl ho.out w.heap.size (some ⟨b, off, pt⟩) n c xs rfl hx1.out h1 (by unfold maxLen; omega) (by omega) hz fun v w2 q1 q2 q3 => ?_
    rw [Nat.zero_add, List.nil_append] at q1
    have hB := hb1.out.trans (below_of_grown q2 hz (fun k hk => by cases hk; exact Nat.le_refl _))
    clear q2 q3
    replace q1 := hide q1
    replace hB := hide hB
    iterate 1 (refine wpList_plain rfl fun K hK => ?_; go_simp; refine hK _ _ ?_; clear hK K)
    refine wpList_nil ?_
    go_simp
    go_wp2_with fail
    go_ret
    exact ⟨v, rfl, q1.out, hB.out⟩
theorem levels_any (ns : List Nd) (base x : Nat) (w : World) (hT : TreeAt w base x ns) :
    Calls Tryz.prog 39 #[.pointer (some ⟨x, 0, none⟩)] w fun e w' => ∃ v, e = .returned v ∧ w'.ownsRow w.heap.size 3 1 v (topF ns).length ((topF ns).map intv) ∧ Below w.heap.size w w' := by
  obtain ⟨nv, kv, tv, hv, us, hC⟩ := hT
  have hsm := hC.small.1
  obtain ⟨At, ct, htv, h1, h2, hvt⟩ := own_isv (hC.rows.own 0 tv _ rfl rfl)
  have k2 := blk_cell hC.blk 2
  subst htv
  have hle : (topF ns).length ≤ ns.length := by
    unfold topF placesF placesN
    rw [List.length_map]
    have := List.length_filter_le (fun i => (ns[i]?).any (fun n => decide (n.kind = 1))) (List.range ns.length)
    rw [List.length_range] at this
    omega
  have q := tclone_any ((topF ns).map intv) (topF ns).length ct At w hvt (by omega) (fun u hu => by obtain ⟨y, _, rfl⟩ := List.mem_map.1 hu; rfl)
  clear hC hvt
  replace q := hide q
  go_enter Tryz.func39, Tryz.ntmps39
  go_wp2_with fail
  refine (q.out).mono ?_
  rintro e w2 ⟨v, rfl, ho, hb⟩
  replace ho := hide ho
  replace hb := hide hb
  go_wp2_with fail
  go_ret
  exact ⟨v, rfl, ho.out, hb.out⟩
end Tree16
end Go.Proofs.YtcpokkkdmenmgaaGreatDoor
/- valid: self: hosts have an address from which packets are sent. Condition: fewer than 2^40 nodes. -/
namespace Go.Proofs.YtcpokkkdmenmgaaGreatDoor
open Go.RowKit Go.ChangeShapes Go.WideShapes Go.ChangeAt Go.Deep
namespace Val19
open Conf18 (Nd Vp Vw Cfg zA ndC vpC vwC cfC CfgR lt_of_blk nd_one alloc_nd isRel_below)
open Addr05 (Adr)
open Tree16 (rightA treeF topF)
set_option maxRecDepth 20000 in
set_option maxHeartbeats 16000000 in
theorem self_any (c : Cfg) (w : World) (A1 A2 A3 : Option Addr) (k1 k2 k3 : Nat) (h : CfgR w w.heap.size c A1 A2 A3 k1 k2 k3) (hn : c.nodes.length ≤ 1099511627776) :
    Calls Tryz.prog 36 #[.agg (cfC c (.slice A1 c.nodes.length k1) (.slice A2 c.vips.length k2) (.slice A3 c.views.length k3))] w fun e w' => e = .returned (.bool (selfB c)) ∧ Below w.heap.size w w' := by
  obtain ⟨X, hX⟩ : ∃ X, selfB c = X := ⟨_, rfl⟩
  have hX1 : ∀ (i : Nat) (n : Nd), c.nodes[i]? = some n → selfN c n = false → X = false := by
    intro i n hi hf
    rw [← hX]
    unfold selfB
    rw [List.all_eq_false]
    exact ⟨n, List.mem_of_getElem? hi, by rw [hf]; decide⟩
  have hX2 : (∀ (i : Nat) (n : Nd), c.nodes[i]? = some n → selfN c n = true) → X = true := by
    intro hf
    rw [← hX]
    unfold selfB
    rw [List.all_eq_true]
    intro n hn
    obtain ⟨i, hi⟩ := List.mem_iff_getElem?.1 hn
    exact hf i n hi
  rw [hX]
  unfold selfN at hX1 hX2
  obtain ⟨n1, hn1⟩ : ∃ n, c.nodes.length = n := ⟨_, rfl⟩
  have p1 := h.nodes
  rw [hn1] at hn p1 ⊢
  obtain ⟨⟨s0v, s0h, s0l⟩, hs0⟩ : ∃ x, c.s0 = x := ⟨_, rfl⟩
  obtain ⟨⟨s1v, s1h, s1l⟩, hs1⟩ : ∃ x, c.s1 = x := ⟨_, rfl⟩
  rw [hs0, hs1] at hX1 hX2
  unfold cfC
  rw [hs0, hs1]
  dsimp only
  obtain ⟨w1, hw1⟩ : ∃ w1, w.alloc (.cells #[.slice A1 n1 k1, .slice A2 c.vips.length k2, .slice A3 c.views.length k3, .int .i64 c.factor, .int .i64 c.domain, .bool s0v, .int .u64 (s0h : Int), .int .u64 (s0l : Int), .bool s1v, .int .u64 (s1h : Int), .int .u64 (s1l : Int)] 34) = w1 := ⟨_, rfl⟩
  have hb1 : Below w.heap.size w w1 := hw1 ▸ (Below.refl _ _).alloc (Nat.le_refl _) _
  have hg1 : w1.heap[w.heap.size]? = some (.cells #[.slice A1 n1 k1, .slice A2 c.vips.length k2, .slice A3 c.views.length k3, .int .i64 c.factor, .int .i64 c.domain, .bool s0v, .int .u64 (s0h : Int), .int .u64 (s0l : Int), .bool s1v, .int .u64 (s1h : Int), .int .u64 (s1l : Int)] 34 (0, 0)) := hw1 ▸ blk_new _ _ _
  have hz1 := lt_of_blk hg1
  have hgc := blk_cell hg1 0
  obtain ⟨z, hz⟩ : ∃ z, w.heap.size = z := ⟨_, rfl⟩
  have p1w := p1.below hb1
  rw [hz] at hb1 hg1 hz1 p1w
  have hBF : Below w.heap.size w w1 := by rw [hz]; exact hb1
  clear h hX p1 hs0 hs1
  replace hb1 := hide hb1
  replace hg1 := hide hg1
  replace p1w := hide p1w
  replace hX1 := hide hX1
  replace hX2 := hide hX2
  replace hBF := hide hBF
  go_enter Tryz.func36, Tryz.ntmps36
  go_upto_region 1 with fail
  clear hw1
  rw [hz] at hgc
  go_wp2_with fail
  clear hgc
  go_loopw [4, 5, 9] (fun _ _ iv wr => ∃ i : Nat, i ≤ n1 ∧ iv = .int .i64 (i : Int) ∧ (∀ (j : Nat) (n : Nd), j < i → c.nodes[j]? = some n → (!decide (n.kind = 4 ∧ (if n.a.v6 = true then (⟨s1v, s1h, s1l⟩ : Adr) else ⟨s0v, s0h, s0l⟩) = zA)) = true) ∧ Below w1.heap.size w1 wr) (fun _ _ iv _ => n1 - (intOf iv).toNat)
  case atStart => exact ⟨0, by omega, rfl, fun j n hj => by omega, Below.refl _ _⟩
  case round =>
    obtain ⟨i, hi, rfl, hno, hB⟩ := hrel
    have hzr := hB.size
    by_cases hin : i < n1
    · have hlt : (i : Int) < (n1 : Int) := by omega
      obtain ⟨b, off, nd, rfl, hbk, hni, hcell⟩ := IsT.at (f := ndC) (size := 7) (fun _ => rfl) (by decide) (p1w.out.below (hB.mono (by omega))) hin
      have wi1 : IntKind.i64.wrap ((i : Int) + 1) = ((i + 1 : Nat) : Int) := by rw [wraps62 _ (by omega) (by omega)]; omega
      have hXi := hX1.out i nd hni
      have hno2 : (!decide (nd.kind = 4 ∧ (if nd.a.v6 = true then (⟨s1v, s1h, s1l⟩ : Adr) else ⟨s0v, s0h, s0l⟩) = zA)) = true → ∀ (j : Nat) (n : Nd), j < i + 1 → c.nodes[j]? = some n → (!decide (n.kind = 4 ∧ (if n.a.v6 = true then (⟨s1v, s1h, s1l⟩ : Adr) else ⟨s0v, s0h, s0l⟩) = zA)) = true := by
        intro he j n hj hd
        by_cases hji : j = i
        · subst hji
          obtain rfl := Option.some.inj (hni.symm.trans hd)
          exact he
        · exact hno j n (by omega) hd
      clear hno hni
      obtain ⟨nm, kd, ab, wt, ⟨v6, hi', lo⟩⟩ := nd
      dsimp only at hXi hno2
      have y0 : wr.cell? ⟨b, off + i * 7, none⟩ = some (.string (str nm)) := hcell 0 _ rfl
      have y1 : wr.cell? ⟨b, off + i * 7 + 1, none⟩ = some (.int .i64 kd) := hcell 1 _ rfl
      have y2 : wr.cell? ⟨b, off + i * 7 + 2, none⟩ = some (.int .i64 ab) := hcell 2 _ rfl
      have y3 : wr.cell? ⟨b, off + i * 7 + 3, none⟩ = some (.int .i64 wt) := hcell 3 _ rfl
      have y4 : wr.cell? ⟨b, off + i * 7 + 4, none⟩ = some (.bool v6) := hcell 4 _ rfl
      have y5 : wr.cell? ⟨b, off + i * 7 + 5, none⟩ = some (.int .u64 (hi' : Int)) := hcell 5 _ rfl
      have y6 : wr.cell? ⟨b, off + i * 7 + 6, none⟩ = some (.int .u64 (lo : Int)) := hcell 6 _ rfl
      clear hcell
      obtain ⟨ek4, hek4⟩ : ∃ b, decide (kd = 4) = b := ⟨_, rfl⟩
      have hek : (kd == 4) = ek4 := by rw [← hek4]; rfl
      obtain ⟨Z, hZ⟩ : ∃ b, decide ((if v6 = true then (⟨s1v, s1h, s1l⟩ : Adr) else ⟨s0v, s0h, s0l⟩) = zA) = b := ⟨_, rfl⟩
      obtain ⟨B, hBB⟩ : ∃ b, (ek4 && Z) = b := ⟨_, rfl⟩
      have hd4 : decide (kd = 4 ∧ (if v6 = true then (⟨s1v, s1h, s1l⟩ : Adr) else ⟨s0v, s0h, s0l⟩) = zA) = B := by rw [Bool.decide_and, hek4, hZ, hBB]
      rw [hd4] at hXi hno2
      clear hd4 hek4
      replace hXi := hide hXi
      replace hno2 := hide hno2
      replace hB := hide hB
      go_upto_region 3 with fail
      apply wp_region_lit
      iterate 2 (refine wpList_plain rfl fun K hK => ?_; go_simp; refine hK _ _ ?_; clear hK K)
      refine wpl_new rfl rfl 68 _ (alloc_nd _ rfl) 4 rfl (.tmp 12) rfl _ (fun _ => rfl) (fun _ => rfl) rfl (by kernel_rfl) (nd_one (str nm) kd ab wt v6 (hi' : Int) (lo : Int)) ?_
      intro w4 hg4 hb4 hz4
      refine wpList_nil ?_
      have hB4 := hB.out.trans (hb4.mono hzr)
      have hg14 := blk_below hB4 hz1 hg1.out
      have d1 := blk_cell hg4 1
      have d4 := blk_cell hg4 4
      have e5 := blk_cell hg14 5
      have e6 := blk_cell hg14 6
      have e7 := blk_cell hg14 7
      have e8 := blk_cell hg14 8
      have e9 := blk_cell hg14 9
      have e10 := blk_cell hg14 10
      clear y0 y1 y2 y3 y4 y5 y6 hb4 hg4 hg14 hB
      replace hB4 := hide hB4
      cases v6
      · go_upto_region 7 with fail
        go_cut [26] (fun bv wx => bv = .bool B ∧ w4 = wx)
        case first =>
          clear hXi hno2
          cases ek4
          · obtain rfl : false = B := hBB
            go_wp2_with fail
            go_meet
            exact ⟨rfl, rfl⟩
          · obtain rfl : Z = B := hBB
            cases Z
            · have hz0 := of_decide_eq_false hZ
              rw [if_neg (by decide)] at hz0
              clear hZ
              cases s0v
              · by_cases hh : s0h = 0
                · subst hh
                  have hl0 : ¬ (s0l : Int) = 0 := fun h => hz0 (by rw [show s0l = 0 by omega])
                  clear hz0
                  go_wp2_with fail
                  go_meet
                  exact ⟨rfl, rfl⟩
                · have hh0 : ¬ (s0h : Int) = 0 := by omega
                  clear hz0
                  go_wp2_with fail
                  go_meet
                  exact ⟨rfl, rfl⟩
              · clear hz0
                go_wp2_with fail
                go_meet
                exact ⟨rfl, rfl⟩
            · have hz0 := of_decide_eq_true hZ
              rw [if_neg (by decide)] at hz0
              obtain ⟨rfl, rfl, rfl⟩ : s0v = false ∧ s0h = 0 ∧ s0l = 0 := by cases hz0; exact ⟨rfl, rfl, rfl⟩
              clear hZ hz0
              go_wp2_with fail
              go_meet
              exact ⟨rfl, rfl⟩
        case rest =>
        obtain ⟨rfl, rfl⟩ := hcut
        clear hZ hBB hek d1 d4 e5 e6 e7 e8 e9 e10
        cases B
        · have hno3 := hno2.out rfl
          clear hXi hno2
          replace hno3 := hide hno3
          go_wp2_with fail
          exact ⟨⟨i + 1, by omega, by first | rfl | go_num, hno3.out, hB4.out⟩, by simp only [intOf]; omega⟩
        · obtain rfl := hXi.out rfl
          clear hXi hno2
          go_wp2_with fail
          go_ret
          exact ⟨rfl, hb1.out.trans (hB4.out.mono (by omega))⟩
      · go_upto_region 7 with fail
        go_cut [26] (fun bv wx => bv = .bool B ∧ w4 = wx)
        case first =>
          clear hXi hno2
          cases ek4
          · obtain rfl : false = B := hBB
            go_wp2_with fail
            go_meet
            exact ⟨rfl, rfl⟩
          · obtain rfl : Z = B := hBB
            cases Z
            · have hz0 := of_decide_eq_false hZ
              rw [if_pos rfl] at hz0
              clear hZ
              cases s1v
              · by_cases hh : s1h = 0
                · subst hh
                  have hl0 : ¬ (s1l : Int) = 0 := fun h => hz0 (by rw [show s1l = 0 by omega])
                  clear hz0
                  go_wp2_with fail
                  go_meet
                  exact ⟨rfl, rfl⟩
                · have hh0 : ¬ (s1h : Int) = 0 := by omega
                  clear hz0
                  go_wp2_with fail
                  go_meet
                  exact ⟨rfl, rfl⟩
              · clear hz0
                go_wp2_with fail
                go_meet
                exact ⟨rfl, rfl⟩
            · have hz0 := of_decide_eq_true hZ
              rw [if_pos rfl] at hz0
              obtain ⟨rfl, rfl, rfl⟩ : s1v = false ∧ s1h = 0 ∧ s1l = 0 := by cases hz0; exact ⟨rfl, rfl, rfl⟩
              clear hZ hz0
              go_wp2_with fail
              go_meet
              exact ⟨rfl, rfl⟩
        case rest =>
        obtain ⟨rfl, rfl⟩ := hcut
        clear hZ hBB hek d1 d4 e5 e6 e7 e8 e9 e10
        cases B
        · have hno3 := hno2.out rfl
          clear hXi hno2
          replace hno3 := hide hno3
          go_wp2_with fail
          exact ⟨⟨i + 1, by omega, by first | rfl | go_num, hno3.out, hB4.out⟩, by simp only [intOf]; omega⟩
        · obtain rfl := hXi.out rfl
          clear hXi hno2
          go_wp2_with fail
          go_ret
          exact ⟨rfl, hb1.out.trans (hB4.out.mono (by omega))⟩
    · obtain rfl : i = n1 := by omega
      have hlt : ((i : Int) < (i : Int)) = False := by simp
      have hXn := hX2.out (fun j n hd => by
        by_cases hj : j < i
        · exact hno j n hj hd
        · have h5 := (List.getElem?_eq_some_iff.1 hd).1
          have h6 := p1w.out.1
          omega)
      clear hno
      replace hXn := hide hXn
      replace hB := hide hB
      go_wp2_with fail
      go_ret
      exact ⟨by rw [hXn.out]; rfl, hBF.out.trans (hB.out.mono (by omega))⟩
end Val19
end Go.Proofs.YtcpokkkdmenmgaaGreatDoor
