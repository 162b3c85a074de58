/- valid: vip: an address behind others. Condition: fewer than 2^40 others. -/
import Derived.Test.YtcpokkkdmenmgaaDoorQStoreNobody16
import Derived.Test.YtcpokkkdmenmgaaDoorQStoreNobody14
import Derived.Test.YtcpokkkdmenmgaaDoorQStoreNobody17
import Derived.Test.YtcpokkkdmenmgaaDoorQStoreNobody8
import Derived.Test.YtcpokkkdmenmgaaDoorQStoreNobody18
import Derived.Test.YtcpokkkdmenmgaaDoorQStoreNobody11
namespace Go.Proofs.YtcpokkkdmenmgaaDoor
open Go.RowKit Go.ChangeShapes Go.WideShapes Go.ChangeAt Go.Deep
namespace Val19
open Conf18 (Nd Vp Vw Cfg zA ndC vpC vwC cfC CfgR lt_of_blk isRel_below alloc_vp vp_one)
open Addr05 (Adr)
open Tree16 (rightA treeF topF rightA_is)
def vpA (v : Vp) : Array Value := #[.bool v.a.v6, .int .u64 (v.a.hi : Int), .int .u64 (v.a.lo : Int), .int .i64 v.proto, .int .i64 v.port, .int .i64 v.copies, .bool v.nat]
theorem vipF_tests (v : Vp) (l : List Vp) : vipF v l = if (!rightA v.a) = true then 18 else if ((v.proto != 6) && (v.proto != 17)) = true then 14
    else if (decide (v.port < 0) || decide (65535 < v.port) || decide (v.copies < 1) || decide (8 < v.copies) || (decide (1 < v.copies) && (v.proto != 17))) = true then 5 else if (l.any (twinV v)) = true then 8 else 0 := by
  unfold vipF
  have h1 : rightA v.a = false ↔ (!rightA v.a) = true := by simp
  have h2 : (v.proto ≠ 6 ∧ v.proto ≠ 17) ↔ ((v.proto != 6) && (v.proto != 17)) = true := by simp
  have h3 : (v.port < 0 ∨ 65535 < v.port ∨ v.copies < 1 ∨ 8 < v.copies ∨ (1 < v.copies ∧ v.proto ≠ 17)) ↔ (decide (v.port < 0) || decide (65535 < v.port) || decide (v.copies < 1) || decide (8 < v.copies) || (decide (1 < v.copies) && (v.proto != 17))) = true := by simp [or_assoc]
  simp only [h1, h2, h3]
set_option maxRecDepth 20000 in
set_option maxHeartbeats 16000000 in
theorem vip_any (v : Vp) (l : List Vp) (n cap : Nat) (A : Option Addr) (w : World) (h : IsT vpC 7 w w.heap.size A n l) (hn : n ≤ 1099511627776) :
    Calls Tryd.prog 65 #[.agg (vpA v), .slice A n cap] w fun e w' => e = .returned (.int .i64 (vipF v l : Int)) ∧ Below w.heap.size w w' := by
  obtain ⟨X, hX⟩ : ∃ X, vipF v l = X := ⟨_, rfl⟩
  rw [hX]
  rw [vipF_tests] at hX
  obtain ⟨⟨v6, hi, lo⟩, pr, po, co, nt⟩ := v
  unfold vpA
  dsimp only at hX ⊢
  have hlen := h.1
  obtain ⟨T, hT⟩ : ∃ b, (l.any (twinV ⟨⟨v6, hi, lo⟩, pr, po, co, nt⟩)) = b := ⟨_, rfl⟩
  rw [hT] at hX
  have hT1 : ∀ (i : Nat) (x : Vp), l[i]? = some x → twinV ⟨⟨v6, hi, lo⟩, pr, po, co, nt⟩ x = true → T = true := by
    intro i x hx hf
    rw [← hT, List.any_eq_true]
    exact ⟨x, List.mem_of_getElem? hx, hf⟩
  have hT2 : (∀ (i : Nat) (x : Vp), l[i]? = some x → twinV ⟨⟨v6, hi, lo⟩, pr, po, co, nt⟩ x = false) → T = false := by
    intro hf
    rw [← hT, List.any_eq_false]
    intro x hx
    obtain ⟨i, hi⟩ := List.mem_iff_getElem?.1 hx
    rw [hf i x hi]
    decide
  unfold twinV at hT1 hT2
  dsimp only at hT1 hT2
  obtain ⟨w1, hw1⟩ : ∃ w1, w.alloc (.cells #[.bool v6, .int .u64 (hi : Int), .int .u64 (lo : Int), .int .i64 pr, .int .i64 po, .int .i64 co, .bool nt] 77) = w1 := ⟨_, rfl⟩
  have hb1 : Below w.heap.size w w1 := hw1 ▸ (Below.refl _ _).alloc (Nat.le_refl _) _
  have hg1 : w1.heap[w.heap.size]? = some (.cells #[.bool v6, .int .u64 (hi : Int), .int .u64 (lo : Int), .int .i64 pr, .int .i64 po, .int .i64 co, .bool nt] 77 (0, 0)) := hw1 ▸ blk_new _ _ _
  have hz1 := lt_of_blk hg1
  have h1 := h.below hb1
  have e0 := blk_cell hg1 0
  have e1 := blk_cell hg1 1
  have e2 := blk_cell hg1 2
  have q := Addr05.Right_any v6 hi lo w1
  rw [rightA_is ⟨v6, hi, lo⟩] at q
  obtain ⟨R, hR⟩ : ∃ b, rightA ⟨v6, hi, lo⟩ = b := ⟨_, rfl⟩
  rw [hR] at q hX
  clear hR hT h
  replace hb1 := hide hb1
  replace hg1 := hide hg1
  replace hX := hide hX
  replace q := hide q
  replace hT1 := hide hT1
  replace hT2 := hide hT2
  replace h1 := hide h1
  go_enter Tryd.func65, Tryd.ntmps65
  go_upto_region 1 with fail
  clear hw1
  go_wp2_with fail
  refine (q.out).mono ?_
  rintro e w2 ⟨rfl, hb2⟩
  have hB := hb1.out.trans (hb2.mono hb1.out.size)
  have hz2 := hb2.size
  have hg2 := blk_below hb2 hz1 hg1.out
  have h2 := h1.out.below (hb2.mono (by omega))
  have e3 := blk_cell hg2 3
  have e4 := blk_cell hg2 4
  have e5 := blk_cell hg2 5
  have hX1 := hX.out
  clear e0 e1 e2 q hX hb1 hb2 hg1 h1
  replace hB := hide hB
  replace hg2 := hide hg2
  replace h2 := hide h2
  cases R
  case false =>
    obtain rfl : 18 = X := by rw [← hX1]; rfl
    go_wp2_with fail
    go_ret
    exact ⟨rfl, hB.out⟩
  case true =>
  rw [if_neg (by decide)] at hX1
  obtain ⟨p6, hp6⟩ : ∃ b, (pr != 6) = b := ⟨_, rfl⟩
  obtain ⟨p17, hp17⟩ : ∃ b, (pr != 17) = b := ⟨_, rfl⟩
  rw [hp6, hp17] at hX1
  obtain ⟨P1, hP1⟩ : ∃ b, (p6 && p17) = b := ⟨_, rfl⟩
  rw [hP1] at hX1
  replace hX1 := hide hX1
  go_upto_region 3 with fail
  go_cut [12] (fun bv wx => bv = .bool P1 ∧ w2 = wx)
  case first =>
    clear hX1 hT1 hT2
    cases p6
    · obtain rfl : false = P1 := hP1
      go_wp2_with fail
      go_meet
      exact ⟨rfl, rfl⟩
    · obtain rfl : p17 = P1 := hP1
      go_wp2_with fail
      go_meet
      exact ⟨rfl, rfl⟩
  case rest =>
  obtain ⟨rfl, rfl⟩ := hcut
  have hX2 := hX1.out
  clear hX1 hP1 hp6
  cases P1
  case true =>
    obtain rfl : 14 = X := by rw [← hX2]; rfl
    go_wp2_with fail
    go_ret
    exact ⟨rfl, hB.out⟩
  case false =>
  rw [if_neg (by decide)] at hX2
  obtain ⟨b1, hb1⟩ : ∃ b, decide (po < 0) = b := ⟨_, rfl⟩
  obtain ⟨b2, hb2⟩ : ∃ b, decide (65535 < po) = b := ⟨_, rfl⟩
  obtain ⟨b3, hb3⟩ : ∃ b, decide (co < 1) = b := ⟨_, rfl⟩
  obtain ⟨b4, hb4⟩ : ∃ b, decide (8 < co) = b := ⟨_, rfl⟩
  obtain ⟨b5, hb5⟩ : ∃ b, decide (1 < co) = b := ⟨_, rfl⟩
  rw [hb1, hb2, hb3, hb4, hb5] at hX2
  obtain ⟨P2, hP2⟩ : ∃ b, (b1 || b2 || b3 || b4 || (b5 && p17)) = b := ⟨_, rfl⟩
  rw [hP2] at hX2
  replace hX2 := hide hX2
  go_upto_region 5 with fail
  go_cut [21] (fun bv wx => bv = .bool P2 ∧ w2 = wx)
  case first =>
    clear hX2 hT1 hT2
    cases b1
    · cases b2
      · cases b3
        · cases b4
          · cases b5
            · obtain rfl : false = P2 := hP2
              go_wp2_with fail
              go_meet
              exact ⟨rfl, rfl⟩
            · obtain rfl : p17 = P2 := hP2
              go_wp2_with fail
              go_meet
              exact ⟨rfl, rfl⟩
          · obtain rfl : true = P2 := hP2
            go_wp2_with fail
            go_meet
            exact ⟨rfl, rfl⟩
        · obtain rfl : true = P2 := by rw [← hP2]; simp
          go_wp2_with fail
          go_meet
          exact ⟨rfl, rfl⟩
      · obtain rfl : true = P2 := by rw [← hP2]; simp
        go_wp2_with fail
        go_meet
        exact ⟨rfl, rfl⟩
    · obtain rfl : true = P2 := by rw [← hP2]; simp
      go_wp2_with fail
      go_meet
      exact ⟨rfl, rfl⟩
  case rest =>
  obtain ⟨rfl, rfl⟩ := hcut
  have hX3 := hX2.out
  clear hX2 hP2 hb1 hb2 hb3 hb4 hb5 hp17
  cases P2
  case true =>
    obtain rfl : 5 = X := by rw [← hX3]; rfl
    go_wp2_with fail
    go_ret
    exact ⟨rfl, hB.out⟩
  case false =>
  rw [if_neg (by decide)] at hX3
  clear e3 e4 e5
  replace hX3 := hide hX3
  go_wp2_with fail
  go_loopw [6, 52] (fun _ iv wr => ∃ i : Nat, i ≤ n ∧ iv = .int .i64 (i : Int) ∧ (∀ (j : Nat) (x : Vp), j < i → l[j]? = some x → decide (x.a = (⟨v6, hi, lo⟩ : Adr) ∧ x.proto = pr ∧ x.port = po) = false) ∧ Below w2.heap.size w2 wr) (fun _ iv _ => n - (intOf iv).toNat)
  case atStart => exact ⟨0, by omega, rfl, fun j x hj => by omega, Below.refl _ _⟩
  case round =>
    obtain ⟨i, hi0, rfl, hno, hBr⟩ := hrel
    have hzr := hBr.size
    by_cases hin : i < n
    · have hlt : (i : Int) < (n : Int) := by omega
      obtain ⟨b, off, nd, rfl, hbk, hni, hcell⟩ := IsT.at (f := vpC) (size := 7) (fun _ => rfl) (by decide) (h2.out.below (hBr.mono (by omega))) hin
      have wi1 : IntKind.i64.wrap ((i : Int) + 1) = ((i + 1 : Nat) : Int) := by rw [wraps62 _ (by omega) (by omega)]; omega
      have hTi := hT1.out i nd hni
      have hno2 : decide (nd.a = (⟨v6, hi, lo⟩ : Adr) ∧ nd.proto = pr ∧ nd.port = po) = false → ∀ (j : Nat) (x : Vp), j < i + 1 → l[j]? = some x → decide (x.a = (⟨v6, hi, lo⟩ : Adr) ∧ x.proto = pr ∧ x.port = po) = false := by
        intro he j x hj hd
        by_cases hji : j = i
        · subst hji
          obtain rfl := Option.some.inj (hni.symm.trans hd)
          exact he
        · exact hno j x (by omega) hd
      clear hno hni
      obtain ⟨⟨x6, xh, xl⟩, xp, xo, xc, xn⟩ := nd
      dsimp only at hTi hno2
      have y0 : wr.cell? ⟨b, off + i * 7, none⟩ = some (.bool x6) := hcell 0 _ rfl
      have y1 : wr.cell? ⟨b, off + i * 7 + 1, none⟩ = some (.int .u64 (xh : Int)) := hcell 1 _ rfl
      have y2 : wr.cell? ⟨b, off + i * 7 + 2, none⟩ = some (.int .u64 (xl : Int)) := hcell 2 _ rfl
      have y3 : wr.cell? ⟨b, off + i * 7 + 3, none⟩ = some (.int .i64 xp) := hcell 3 _ rfl
      have y4 : wr.cell? ⟨b, off + i * 7 + 4, none⟩ = some (.int .i64 xo) := hcell 4 _ rfl
      have y5 : wr.cell? ⟨b, off + i * 7 + 5, none⟩ = some (.int .i64 xc) := hcell 5 _ rfl
      have y6 : wr.cell? ⟨b, off + i * 7 + 6, none⟩ = some (.bool xn) := hcell 6 _ rfl
      clear hcell
      obtain ⟨E, hE⟩ : ∃ b, decide ((⟨x6, xh, xl⟩ : Adr) = ⟨v6, hi, lo⟩) = b := ⟨_, rfl⟩
      obtain ⟨ep, hep⟩ : ∃ b, decide (xp = pr) = b := ⟨_, rfl⟩
      obtain ⟨eo, heo⟩ : ∃ b, decide (xo = po) = b := ⟨_, rfl⟩
      have hep2 : (xp == pr) = ep := by rw [← hep]; rfl
      have heo2 : (xo == po) = eo := by rw [← heo]; rfl
      obtain ⟨B, hBB⟩ : ∃ b, (E && (ep && eo)) = b := ⟨_, rfl⟩
      have hd4 : decide ((⟨x6, xh, xl⟩ : Adr) = ⟨v6, hi, lo⟩ ∧ xp = pr ∧ xo = po) = B := by rw [Bool.decide_and, Bool.decide_and, hE, hep, heo, hBB]
      rw [hd4] at hTi hno2
      clear hd4 hep heo
      replace hTi := hide hTi
      replace hno2 := hide hno2
      replace hBr := hide hBr
      go_upto_region 9 with fail
      apply wp_region_lit
      iterate 2 (refine wpList_plain rfl fun K hK => ?_; go_simp; refine hK _ _ ?_; clear hK K)
      refine wpl_new rfl rfl 77 _ (alloc_vp _ rfl) 6 rfl (.tmp 55) rfl _ (fun _ => rfl) (fun _ => rfl) rfl (by kernel_rfl) (vp_one x6 (xh : Int) (xl : Int) xp xo xc xn) ?_
      intro w4 hg4 hb4 hz4
      refine wpList_nil ?_
      go_simp
      have hB4 := hBr.out.trans (hb4.mono hzr)
      have hg14 := blk_below hB4 (by omega) hg2.out
      have d0 := blk_cell hg4 0
      have d1 := blk_cell hg4 1
      have d2 := blk_cell hg4 2
      have d3 := blk_cell hg4 3
      have d4 := blk_cell hg4 4
      have e0 := blk_cell hg14 0
      have e1 := blk_cell hg14 1
      have e2 := blk_cell hg14 2
      have e3 := blk_cell hg14 3
      have e4 := blk_cell hg14 4
      clear y0 y1 y2 y3 y4 y5 y6 hb4 hg4 hg14 hBr
      replace hB4 := hide hB4
      go_upto_region 10 with fail
      go_cut [74] (fun bv wx => bv = .bool B ∧ w4 = wx)
      case first =>
        clear hTi hno2 hX3 hT1 hT2
        cases E
        · obtain rfl : false = B := hBB
          have hz0 := of_decide_eq_false hE
          clear hE
          by_cases h6 : x6 = v6
          · subst h6
            by_cases hh : xh = hi
            · subst hh
              have hl0 : ¬ (xl : Int) = (lo : Int) := fun h => hz0 (by rw [show xl = lo by omega])
              clear hz0
              go_wp2_with fail
              go_meet
              exact ⟨rfl, rfl⟩
            · have hh0 : ¬ (xh : Int) = (hi : Int) := by omega
              clear hz0
              go_wp2_with fail
              go_meet
              exact ⟨rfl, rfl⟩
          · clear hz0
            go_wp2_with fail
            go_meet
            exact ⟨rfl, rfl⟩
        · have hz0 := of_decide_eq_true hE
          obtain ⟨rfl, rfl, rfl⟩ : x6 = v6 ∧ xh = hi ∧ xl = lo := by cases hz0; exact ⟨rfl, rfl, rfl⟩
          clear hE hz0
          cases ep
          · obtain rfl : false = B := hBB
            go_wp2_with fail
            go_meet
            exact ⟨rfl, rfl⟩
          · obtain rfl : eo = B := hBB
            go_wp2_with fail
            go_meet
            exact ⟨rfl, rfl⟩
      case rest =>
      obtain ⟨rfl, rfl⟩ := hcut
      clear hE hBB hep2 heo2 d0 d1 d2 d3 d4 e0 e1 e2 e3 e4
      cases B
      · have hno3 := hno2.out rfl
        clear hTi hno2
        replace hno3 := hide hno3
        go_wp2_with fail
        exact ⟨⟨i + 1, by omega, by first | rfl | go_num, hno3.out, hB4.out⟩, by simp only [intOf]; omega⟩
      · obtain rfl := hTi.out rfl
        obtain rfl : 8 = X := hX3.out
        clear hTi hno2
        go_wp2_with fail
        go_ret
        exact ⟨rfl, hB.out.trans (hB4.out.mono hB.out.size)⟩
    · obtain rfl : i = n := by omega
      have hlt : ((i : Int) < (i : Int)) = False := by simp
      have hTn := hT2.out (fun j x hd => by
        by_cases hj : j < i
        · exact hno j x hj hd
        · have h5 := (List.getElem?_eq_some_iff.1 hd).1
          omega)
      subst hTn
      obtain rfl : 0 = X := hX3.out
      clear hno
      replace hBr := hide hBr
      go_wp2_with fail
      go_ret
      exact ⟨rfl, hB.out.trans (hBr.out.mono hB.out.size)⟩
end Val19
end Go.Proofs.YtcpokkkdmenmgaaDoor
/- valid: view: a prefix behind others. Conditions: fewer than 2^40 others, numbers of 64 bits. -/
namespace Go.Proofs.YtcpokkkdmenmgaaDoor
open Go.RowKit Go.ChangeShapes Go.WideShapes Go.ChangeAt Go.Deep
namespace Val19
open Conf18 (Nd Vp Vw Cfg zA ndC vpC vwC cfC CfgR lt_of_blk isRel_below)
open Addr05 (Adr rightP pRight_any pArr)
open Tree16 (rightA treeF topF rightA_is)
theorem alloc_vw (o : Oper) (h : o.op = .alloc 82) (ρ : Operand → Value) (w : World) : (execOp ρ o).run Tryd.prog w = .ok (.value (.pointer (some ⟨w.heap.size, 0, none⟩))) (w.alloc (.cells #[.bool false, .int .u64 0, .int .u64 0, .int .i64 0, .int .i64 0] 82)) := by
  obtain ⟨d, op, t, ps, af, g⟩ := o
  dsimp only at h
  subst h
  kernel_rfl
theorem vw_one (v6 : Bool) (hi lo p q : Int) : (#[.bool v6, .int .u64 hi, .int .u64 lo, .int .i64 p, .int .i64 q] : Array Value).all (·.oneCell') = true := all_oneCell_toArray (by
  intro u hu
  simp only [List.mem_cons, List.not_mem_nil, or_false] at hu
  rcases hu with rfl | rfl | rfl | rfl | rfl <;> rfl)
def vwA (v : Vw) : Array Value := #[.bool v.a.v6, .int .u64 (v.a.hi : Int), .int .u64 (v.a.lo : Int), .int .i64 v.bits, .int .i64 v.level]
theorem viewG_tests (v : Vw) (l : List Vw) (L : Nat) : viewG v l L = if (!rightP v.a v.bits) = true then 18 else if (decide (v.level < 0) || decide ((L : Int) ≤ v.level)) = true then 5 else if (l.any (twinW v)) = true then 8 else 0 := by
  unfold viewG
  have h1 : rightP v.a v.bits = false ↔ (!rightP v.a v.bits) = true := by simp
  have h3 : (v.level < 0 ∨ (L : Int) ≤ v.level) ↔ (decide (v.level < 0) || decide ((L : Int) ≤ v.level)) = true := by simp
  simp only [h1, h3]
set_option maxRecDepth 20000 in
set_option maxHeartbeats 16000000 in
theorem view_any (v : Vw) (hok : v.a.ok) (l : List Vw) (n cap L : Nat) (A : Option Addr) (w : World) (h : IsT vwC 5 w w.heap.size A n l) (hn : n ≤ 1099511627776) :
    Calls Tryd.prog 66 #[.agg (vwA v), .slice A n cap, .int .i64 (L : Int)] w fun e w' => e = .returned (.int .i64 (viewG v l L : Int)) ∧ Below w.heap.size w w' := by
  obtain ⟨X, hX⟩ : ∃ X, viewG v l L = X := ⟨_, rfl⟩
  rw [hX]
  rw [viewG_tests] at hX
  obtain ⟨⟨v6, hi, lo⟩, bi, lv⟩ := v
  unfold vwA
  dsimp only at hX hok ⊢
  have hlen := h.1
  obtain ⟨T, hT⟩ : ∃ b, (l.any (twinW ⟨⟨v6, hi, lo⟩, bi, lv⟩)) = b := ⟨_, rfl⟩
  rw [hT] at hX
  have hT1 : ∀ (i : Nat) (x : Vw), l[i]? = some x → twinW ⟨⟨v6, hi, lo⟩, bi, lv⟩ x = true → T = true := by
    intro i x hx hf
    rw [← hT, List.any_eq_true]
    exact ⟨x, List.mem_of_getElem? hx, hf⟩
  have hT2 : (∀ (i : Nat) (x : Vw), l[i]? = some x → twinW ⟨⟨v6, hi, lo⟩, bi, lv⟩ x = false) → T = false := by
    intro hf
    rw [← hT, List.any_eq_false]
    intro x hx
    obtain ⟨i, hi⟩ := List.mem_iff_getElem?.1 hx
    rw [hf i x hi]
    decide
  unfold twinW at hT1 hT2
  dsimp only at hT1 hT2
  obtain ⟨w1, hw1⟩ : ∃ w1, w.alloc (.cells #[.bool v6, .int .u64 (hi : Int), .int .u64 (lo : Int), .int .i64 bi, .int .i64 lv] 82) = w1 := ⟨_, rfl⟩
  have hb1 : Below w.heap.size w w1 := hw1 ▸ (Below.refl _ _).alloc (Nat.le_refl _) _
  have hg1 : w1.heap[w.heap.size]? = some (.cells #[.bool v6, .int .u64 (hi : Int), .int .u64 (lo : Int), .int .i64 bi, .int .i64 lv] 82 (0, 0)) := hw1 ▸ blk_new _ _ _
  have hz1 := lt_of_blk hg1
  have h1 := h.below hb1
  have e0 := blk_cell hg1 0
  have e1 := blk_cell hg1 1
  have e2 := blk_cell hg1 2
  have e3 := blk_cell hg1 3
  have q := pRight_any ⟨v6, hi, lo⟩ hok bi w1
  unfold pArr at q
  obtain ⟨R, hR⟩ : ∃ b, rightP ⟨v6, hi, lo⟩ bi = b := ⟨_, rfl⟩
  rw [hR] at q hX
  dsimp only at q
  clear hR hT h
  replace hb1 := hide hb1
  replace hg1 := hide hg1
  replace hX := hide hX
  replace q := hide q
  replace hT1 := hide hT1
  replace hT2 := hide hT2
  replace h1 := hide h1
  go_enter Tryd.func66, Tryd.ntmps66
  go_upto_region 1 with fail
  clear hw1
  go_wp2_with fail
  refine (q.out).mono ?_
  rintro e w2 ⟨rfl, hb2⟩
  have hB := hb1.out.trans (hb2.mono hb1.out.size)
  have hz2 := hb2.size
  have hg2 := blk_below hb2 hz1 hg1.out
  have h2 := h1.out.below (hb2.mono (by omega))
  have e4 := blk_cell hg2 4
  have hX1 := hX.out
  clear e0 e1 e2 e3 q hX hb1 hb2 hg1 h1
  replace hB := hide hB
  replace hg2 := hide hg2
  replace h2 := hide h2
  cases R
  case false =>
    obtain rfl : 18 = X := by rw [← hX1]; rfl
    go_wp2_with fail
    go_ret
    exact ⟨rfl, hB.out⟩
  case true =>
  rw [if_neg (by decide)] at hX1
  obtain ⟨b1, hb1⟩ : ∃ b, decide (lv < 0) = b := ⟨_, rfl⟩
  obtain ⟨b2, hb2⟩ : ∃ b, decide ((L : Int) ≤ lv) = b := ⟨_, rfl⟩
  rw [hb1, hb2] at hX1
  obtain ⟨P1, hP1⟩ : ∃ b, (b1 || b2) = b := ⟨_, rfl⟩
  rw [hP1] at hX1
  replace hX1 := hide hX1
  go_upto_region 3 with fail
  go_cut [14] (fun bv wx => bv = .bool P1 ∧ w2 = wx)
  case first =>
    clear hX1 hT1 hT2
    cases b1
    · obtain rfl : b2 = P1 := hP1
      go_wp2_with fail
      go_meet
      exact ⟨rfl, rfl⟩
    · obtain rfl : true = P1 := hP1
      go_wp2_with fail
      go_meet
      exact ⟨rfl, rfl⟩
  case rest =>
  obtain ⟨rfl, rfl⟩ := hcut
  have hX3 := hX1.out
  clear hX1 hP1 hb1 hb2
  cases P1
  case true =>
    obtain rfl : 5 = X := by rw [← hX3]; rfl
    go_wp2_with fail
    go_ret
    exact ⟨rfl, hB.out⟩
  case false =>
  rw [if_neg (by decide)] at hX3
  clear e4
  replace hX3 := hide hX3
  go_wp2_with fail
  go_loopw [8, 26] (fun _ iv wr => ∃ i : Nat, i ≤ n ∧ iv = .int .i64 (i : Int) ∧ (∀ (j : Nat) (x : Vw), j < i → l[j]? = some x → decide (x.a = (⟨v6, hi, lo⟩ : Adr) ∧ x.bits = bi) = false) ∧ Below w2.heap.size w2 wr) (fun _ iv _ => n - (intOf iv).toNat)
  case atStart => exact ⟨0, by omega, rfl, fun j x hj => by omega, Below.refl _ _⟩
  case round =>
    obtain ⟨i, hi0, rfl, hno, hBr⟩ := hrel
    have hzr := hBr.size
    by_cases hin : i < n
    · have hlt : (i : Int) < (n : Int) := by omega
      obtain ⟨b, off, nd, rfl, hbk, hni, hcell⟩ := IsT.at (f := vwC) (size := 5) (fun _ => rfl) (by decide) (h2.out.below (hBr.mono (by omega))) hin
      have wi1 : IntKind.i64.wrap ((i : Int) + 1) = ((i + 1 : Nat) : Int) := by rw [wraps62 _ (by omega) (by omega)]; omega
      have hTi := hT1.out i nd hni
      have hno2 : decide (nd.a = (⟨v6, hi, lo⟩ : Adr) ∧ nd.bits = bi) = false → ∀ (j : Nat) (x : Vw), j < i + 1 → l[j]? = some x → decide (x.a = (⟨v6, hi, lo⟩ : Adr) ∧ x.bits = bi) = false := by
        intro he j x hj hd
        by_cases hji : j = i
        · subst hji
          obtain rfl := Option.some.inj (hni.symm.trans hd)
          exact he
        · exact hno j x (by omega) hd
      clear hno hni
      obtain ⟨⟨x6, xh, xl⟩, xb, xv⟩ := nd
      dsimp only at hTi hno2
      have y0 : wr.cell? ⟨b, off + i * 5, none⟩ = some (.bool x6) := hcell 0 _ rfl
      have y1 : wr.cell? ⟨b, off + i * 5 + 1, none⟩ = some (.int .u64 (xh : Int)) := hcell 1 _ rfl
      have y2 : wr.cell? ⟨b, off + i * 5 + 2, none⟩ = some (.int .u64 (xl : Int)) := hcell 2 _ rfl
      have y3 : wr.cell? ⟨b, off + i * 5 + 3, none⟩ = some (.int .i64 xb) := hcell 3 _ rfl
      have y4 : wr.cell? ⟨b, off + i * 5 + 4, none⟩ = some (.int .i64 xv) := hcell 4 _ rfl
      clear hcell
      obtain ⟨E, hE⟩ : ∃ b, decide ((⟨x6, xh, xl⟩ : Adr) = ⟨v6, hi, lo⟩) = b := ⟨_, rfl⟩
      obtain ⟨ep, hep⟩ : ∃ b, decide (xb = bi) = b := ⟨_, rfl⟩
      obtain ⟨B, hBB⟩ : ∃ b, (E && ep) = b := ⟨_, rfl⟩
      have hd4 : decide ((⟨x6, xh, xl⟩ : Adr) = ⟨v6, hi, lo⟩ ∧ xb = bi) = B := by rw [Bool.decide_and, hE, hep, hBB]
      rw [hd4] at hTi hno2
      clear hd4
      replace hTi := hide hTi
      replace hno2 := hide hno2
      replace hBr := hide hBr
      go_upto_region 7 with fail
      apply wp_region_lit
      iterate 2 (refine wpList_plain rfl fun K hK => ?_; go_simp; refine hK _ _ ?_; clear hK K)
      refine wpl_new rfl rfl 82 _ (alloc_vw _ rfl) 8 rfl (.tmp 29) rfl _ (fun _ => rfl) (fun _ => rfl) rfl (by kernel_rfl) (vw_one x6 (xh : Int) (xl : Int) xb xv) ?_
      intro w4 hg4 hb4 hz4
      refine wpList_nil ?_
      go_simp
      have hB4 := hBr.out.trans (hb4.mono hzr)
      have hg14 := blk_below hB4 (by omega) hg2.out
      have d0 := blk_cell hg4 0
      have d1 := blk_cell hg4 1
      have d2 := blk_cell hg4 2
      have d3 := blk_cell hg4 3
      have e0 := blk_cell hg14 0
      have e1 := blk_cell hg14 1
      have e2 := blk_cell hg14 2
      have e3 := blk_cell hg14 3
      clear y0 y1 y2 y3 y4 hb4 hg4 hg14 hBr
      replace hB4 := hide hB4
      go_upto_region 8 with fail
      go_cut [34] (fun bv wx => bv = .bool B ∧ w4 = wx)
      case first =>
        clear hTi hno2 hX3 hT1 hT2
        cases E
        · obtain rfl : false = B := hBB
          have hz0 := of_decide_eq_false hE
          clear hE
          by_cases h6 : x6 = v6
          · subst h6
            by_cases hh : xh = hi
            · subst hh
              have hl0 : ¬ (xl : Int) = (lo : Int) := fun h => hz0 (by rw [show xl = lo by omega])
              clear hz0
              go_wp2_with fail
              go_meet
              exact ⟨rfl, rfl⟩
            · have hh0 : ¬ (xh : Int) = (hi : Int) := by omega
              clear hz0
              go_wp2_with fail
              go_meet
              exact ⟨rfl, rfl⟩
          · clear hz0
            go_wp2_with fail
            go_meet
            exact ⟨rfl, rfl⟩
        · have hz0 := of_decide_eq_true hE
          obtain ⟨rfl, rfl, rfl⟩ : x6 = v6 ∧ xh = hi ∧ xl = lo := by cases hz0; exact ⟨rfl, rfl, rfl⟩
          obtain rfl : ep = B := hBB
          clear hE hz0
          cases ep
          · have hne := of_decide_eq_false hep
            clear hep
            go_wp2_with fail
            go_meet
            exact ⟨rfl, rfl⟩
          · obtain rfl := of_decide_eq_true hep
            clear hep
            go_wp2_with fail
            go_meet
            exact ⟨rfl, rfl⟩
      case rest =>
      obtain ⟨rfl, rfl⟩ := hcut
      clear hE hBB hep d0 d1 d2 d3 e0 e1 e2 e3
      cases B
      · have hno3 := hno2.out rfl
        clear hTi hno2
        replace hno3 := hide hno3
        go_wp2_with fail
        exact ⟨⟨i + 1, by omega, by first | rfl | go_num, hno3.out, hB4.out⟩, by simp only [intOf]; omega⟩
      · obtain rfl := hTi.out rfl
        obtain rfl : 8 = X := hX3.out
        clear hTi hno2
        go_wp2_with fail
        go_ret
        exact ⟨rfl, hB.out.trans (hB4.out.mono hB.out.size)⟩
    · obtain rfl : i = n := by omega
      have hlt : ((i : Int) < (i : Int)) = False := by simp
      have hTn := hT2.out (fun j x hd => by
        by_cases hj : j < i
        · exact hno j x hj hd
        · have h5 := (List.getElem?_eq_some_iff.1 hd).1
          omega)
      subst hTn
      obtain rfl : 0 = X := hX3.out
      clear hno
      replace hBr := hide hBr
      go_wp2_with fail
      go_ret
      exact ⟨rfl, hB.out.trans (hBr.out.mono hB.out.size)⟩
end Val19
end Go.Proofs.YtcpokkkdmenmgaaDoor
/- The walk of ConfParses: it answers true. Condition: the cell of bytealg.MaxLen. -/
namespace Go.Proofs.YtcpokkkdmenmgaaDoor
open Go.RowKit Go.ChangeShapes Go.WideShapes Go.ChangeAt Go.Deep
namespace Conf18
open Addr05
/-- What a reader comes to, as values that were there. -/
def ReadEnd (s : List UInt8) (w w' : World) (e : Ending) : Prop :=
  Below w.heap.size w w' ∧ ∃ (c : Cfg) (no : Nat) (en : Int) (A1 A2 A3 : Option Addr) (k1 k2 k3 : Nat), (match confF s with | .error p => (zeroC, p.1, p.2) | .ok c => (c, 0, 0)) = (c, no, en) ∧ c.small 4096 ∧
    e = .returned (.tuple #[.agg (cfC c (.slice A1 c.nodes.length k1) (.slice A2 c.vips.length k2) (.slice A3 c.views.length k3)), .int .i64 (no : Int), .int .i64 en]) ∧ CfgR w' w'.heap.size c A1 A2 A3 k1 k2 k3
theorem readEnd_of {s : List UInt8} {w w' : World} {e : Ending} (h : ParseEnd s w w' e) : ReadEnd s w w' e := by
  obtain ⟨hb, ⟨p, hp, he⟩ | ⟨c, v, hp, he, hv, hs⟩⟩ := h
  · obtain ⟨A1, A2, A3, k1, k2, k3, e1, hR⟩ := (CfgV.zero w' w'.heap.size).open
    rw [e1] at he
    exact ⟨hb, zeroC, p.1, p.2, A1, A2, A3, k1, k2, k3, by rw [hp], ⟨Nat.zero_le _, Nat.zero_le _, Nat.zero_le _⟩, he, hR⟩
  · obtain ⟨A1, A2, A3, k1, k2, k3, e1, hR⟩ := hv.open
    rw [e1] at he
    exact ⟨hb, c, 0, 0, A1, A2, A3, k1, k2, k3, by rw [hp], hs, he, hR⟩
end Conf18
end Go.Proofs.YtcpokkkdmenmgaaDoor
/- tree: New. Condition: fewer than 2^40 nodes, names of at most 2^40 bytes. -/
namespace Go.Proofs.YtcpokkkdmenmgaaDoor
open Go.RowKit Go.ChangeShapes Go.WideShapes Go.ChangeAt Go.Deep
namespace Tree16
open Conf18 (Nd ndC lt_of_blk nd_one alloc_nd isRel_below)
theorem right_zero {n : Nd} {l : List Nd} (h : rightF n l = 0) : 1 ≤ n.kind ∧ n.kind ≤ 4 ∧ n.above < (l.length : Int) := by
  unfold rightF at h
  split at h
  · cases h
  · rename_i h1
    split at h
    · cases h
    · split at h
      · cases h
      · rename_i h3
        rw [not_or, not_or] at h1
        refine ⟨by omega, by omega, ?_⟩
        by_cases hk : n.kind = 1
        · have : n.above = -1 := by
            by_cases e : n.above = -1
            · exact e
            · exact absurd (.inl ⟨hk, e⟩) h3
          omega
        · rcases Int.lt_or_le n.above (l.length : Int) with h4 | h4
          · exact h4
          · exact absurd (.inr ⟨by omega, .inr h4⟩) h3
def TNewEnd (l : List Nd) (w w' : World) (e : Ending) : Prop :=
  Below w.heap.size w w' ∧ ((∃ p, treeF l = some p ∧ 0 < p.2 ∧ e = .returned (.tuple #[.pointer none, .int .i64 (p.1 : Int), .int .i64 (p.2 : Int)])) ∨ (treeF l = none ∧ ∃ x, e = .returned (.tuple #[.pointer (some ⟨x, 0, none⟩), .int .i64 0, .int .i64 0]) ∧ TreeAt w' w.heap.size x l))
set_option maxRecDepth 20000 in
set_option maxHeartbeats 16000000 in
theorem tnew_any (l : List Nd) (k cap : Nat) (A : Option Addr) (w : World) (hl : IsT ndC 7 w w.heap.size A k l) (hcap : k ≤ cap) (hcm : cap ≤ maxLen) (hk : k ≤ 1099511627776) (hnm : ∀ x ∈ l, x.name.length ≤ 1099511627776) :
    Calls Tryd.prog 27 #[.slice A k cap] w fun e w' => TNewEnd l w w' e := by
  have hlen := hl.1
  obtain ⟨w1, hw1⟩ : ∃ w1, w.alloc (.cells #[.slice none 0 0, .slice none 0 0, .slice none 0 0, .slice none 0 0] 111) = w1 := ⟨_, rfl⟩
  have hB : Below w.heap.size w w1 := hw1 ▸ (Below.refl _ _).alloc (Nat.le_refl _) _
  have hg : w1.heap[w.heap.size]? = some (.cells #[.slice none 0 0, .slice none 0 0, .slice none 0 0, .slice none 0 0] 111 (0, 0)) := hw1 ▸ blk_new _ _ _
  have hT0 : TreeAt w1 w.heap.size w.heap.size (l.take 0) := by
    refine ⟨_, _, _, _, [], hg, Nat.le_refl _, World.ownsRow_nil _ _ _ _, World.ownsRow_nil _ _ _ _, ⟨rfl, ?_, ?_⟩, Nat.zero_le _, fun n hn => by cases hn⟩
    · intro i v x h1 h2
      rcases i with _ | _ | i
      · cases h1; cases h2; exact World.ownsRow_nil _ _ _ _
      · cases h1; cases h2; exact World.ownsRow_nil _ _ _ _
      · simp at h1
    · intro i j v u g h1 h2 h3 h4
      rcases i with _ | _ | i
      · cases h1; cases h3
      · cases h1; cases h3
      · simp at h1
  obtain ⟨b, hb⟩ : ∃ b, w.heap.size = b := ⟨_, rfl⟩
  unfold TNewEnd
  rw [hb] at hB hT0 hl
  clear hg
  replace hB := hide hB
  replace hT0 := hide hT0
  replace hl := hide hl
  replace hnm := hide hnm
  go_enter Tryd.func27, Tryd.ntmps27
  go_upto_region 2 with fail
  clear hw1
  go_wp2_with fail
  go_loopw [2, 3, 4, 6, 7, 8, 13] (fun _ _ _ _ _ _ iv wr => ∃ i : Nat, i ≤ k ∧ iv = .int .i64 (i : Int) ∧ treeE l i = none ∧ TreeAt wr b b (l.take i) ∧ Below b w wr) (fun _ _ _ _ _ _ iv _ => k - (intOf iv).toNat)
  case atStart => exact ⟨0, by omega, rfl, rfl, hT0.out, hB.out⟩
  case round =>
    obtain ⟨i, hi, rfl, hE, hT, hBr⟩ := hrel
    by_cases hin : i < k
    · have hlt : (i : Int) < (k : Int) := by omega
      obtain ⟨bl, off, n, rfl, hbl, hni, hcell⟩ := IsT.at (f := ndC) (size := 7) (fun _ => rfl) (by decide) (hl.out.below hBr) hin
      have hnl := hnm.out n (List.mem_of_getElem? hni)
      have htl : (l.take i).length = i := by rw [List.length_take]; omega
      have htk : l.take i ++ [n] = l.take (i + 1) := by rw [List.take_add_one, hni]; rfl
      have wi1 : IntKind.i64.wrap ((i : Int) + 1) = ((i + 1 : Nat) : Int) := by rw [wraps62 _ (by omega) (by omega)]; omega
      have qr := fun (w' : World) (hl' : IsT ndC 7 w' w'.heap.size (some ⟨bl, off, none⟩) i (l.take i)) => right_any n (l.take i) i cap (some ⟨bl, off, none⟩) w' hl' (by omega) hnl
      have qp := fun (w' : World) (hT' : TreeAt w' b b (l.take i)) => tput_any n (l.take i) w' b b hT'
      have hbadS := fun hb => treeE_some hE hni hb
      have hbadN := fun hb => treeE_next hE hni hb
      unfold badF at hbadS hbadN
      obtain ⟨R, hR⟩ : ∃ R, rightF n (l.take i) = R := ⟨_, rfl⟩
      have hRz := fun (h : R = 0) => right_zero (hR.trans h)
      rw [hR] at hbadS hbadN qr
      rw [htl] at hRz hbadS hbadN qp
      clear hE hni hR
      obtain ⟨nm, kd, ab, wt, ⟨v6, hi', lo⟩⟩ := n
      have y0 : wr.cell? ⟨bl, off + i * 7, none⟩ = some (.string (str nm)) := hcell 0 _ rfl
      have y1 : wr.cell? ⟨bl, off + i * 7 + 1, none⟩ = some (.int .i64 kd) := hcell 1 _ rfl
      have y2 : wr.cell? ⟨bl, off + i * 7 + 2, none⟩ = some (.int .i64 ab) := hcell 2 _ rfl
      have y3 : wr.cell? ⟨bl, off + i * 7 + 3, none⟩ = some (.int .i64 wt) := hcell 3 _ rfl
      have y4 : wr.cell? ⟨bl, off + i * 7 + 4, none⟩ = some (.bool v6) := hcell 4 _ rfl
      have y5 : wr.cell? ⟨bl, off + i * 7 + 5, none⟩ = some (.int .u64 (hi' : Int)) := hcell 5 _ rfl
      have y6 : wr.cell? ⟨bl, off + i * 7 + 6, none⟩ = some (.int .u64 (lo : Int)) := hcell 6 _ rfl
      unfold ndA at qr qp
      dsimp only at qr qp hRz hbadS hbadN
      clear hcell
      have hzr := hBr.size
      replace qr := hide qr
      replace qp := hide qp
      replace hRz := hide hRz
      replace hbadS := hide hbadS
      replace hbadN := hide hbadN
      replace hT := hide hT
      replace hBr := hide hBr
      replace htk := hide htk
      replace htl := hide htl
      go_upto_region 4 with fail
      apply wp_region_lit
      iterate 3 (refine wpList_plain rfl fun K hK => ?_; go_simp; refine hK _ _ ?_; clear hK K)
      refine wpl_newm rfl rfl rfl 72 _ (alloc_nd _ rfl) 7 6 rfl rfl (.int .i64 (i : Int)) (fun _ => rfl) (.tmp 17) rfl _ (fun _ => rfl) (fun _ => rfl) rfl (by kernel_rfl) (nd_one (str nm) kd ab wt v6 (hi' : Int) (lo : Int)) ?_
      intro w4 hg4 hb4 hz4
      refine wpList_nil ?_
      go_simp
      have hT4 : TreeAt w4 b b (l.take i) := by
        obtain ⟨nv, kv, tv, hv, us, h⟩ := hT.out
        exact ⟨nv, kv, tv, hv, us, h.on hb4⟩
      have hB4 := hBr.out.trans (hb4.mono (by omega))
      clear y0 y1 y2 y3 y4 y5 y6 hb4 hT hBr
      replace hg4 := hide hg4
      replace hT4 := hide hT4
      replace hB4 := hide hB4
      go_upto_region 5 with fail
      have hs4 := lt_of_blk hg4.out
      refine wp_region_X (Below w4.heap.size) (by as_aux_lemma => kernel_rfl) ?_
      intro w5 hbd
      have hg5 := blk_below hbd hs4 hg4.out
      have ze := hbd.size
      have hT5 : TreeAt w5 b b (l.take i) := by
        obtain ⟨nv, kv, tv, hv, us, h⟩ := hT4.out
        exact ⟨nv, kv, tv, hv, us, h.on hbd⟩
      have hB5 := hB4.out.trans (hbd.mono (by omega))
      have lz := fun l : RelW (Below w4.heap.size) w5 => blk_cell (blk_below l.hk hs4 hg5)
      have hq : ∀ w' : World, Below w4.heap.size w5 w' → Calls Tryd.prog 45 #[.agg #[.string (str nm), .int .i64 kd, .int .i64 ab, .int .i64 wt, .bool v6, .int .u64 (hi' : Int), .int .u64 (lo : Int)], .slice (some ⟨bl, off, none⟩) i cap] w' fun e w6 => e = .returned (.int .i64 (R : Int)) ∧ Below w'.heap.size w' w6 := by
        intro w' h
        refine qr.out w' ?_
        have hB6 := hB5.trans (h.mono (by omega))
        have h2 := IsT.take (f := ndC) (size := 7) (fun _ => rfl) (hl.out.below hB6) (show i ≤ k by omega)
        exact ⟨h2.1, h2.2.more (by have := hB6.size; omega)⟩
      clear hg4 hT4 hB4 hbd
      replace hg5 := hide hg5
      replace hT5 := hide hT5
      replace hB5 := hide hB5
      replace hq := hide hq
      have hic : i ≤ cap := by omega
      refine wpX_seg (Below w4.heap.size) 0 4 (fuel := 2) (by as_aux_lemma => kernel_rfl) (fun d _ _ _ _ h => by cases d <;> exact h) (by as_aux_lemma => kernel_rfl) (by as_aux_lemma => kernel_rfl) ?_
      simp only [List.drop_zero, List.take_succ_cons, List.take_zero]
      iterate 4 (refine wpQX_step (fun K hK => ?_); go_simp; refine hK _ ?_; clear hK K)
      refine wpQF_nil ?_
      clear lz
      refine wpF_step 4 rfl (by as_aux_lemma => kernel_rfl) (fun K hK => ?_)
      go_simp
      go_at_call 45
      refine (hq.out w5 (Below.refl _ _)).mono ?_
      rintro e w6 ⟨rfl, hb6⟩
      refine hK _ _ (hb6.mono (by omega)) ?_
      clear hK K
      refine wpF_step 5 rfl (by as_aux_lemma => kernel_rfl) (fun K hK => ?_)
      go_simp
      refine hK _ _ (IsRel.refl _) ?_
      clear hK K
      refine wpF_done (by as_aux_lemma => kernel_rfl) ?_ 0
      have hg6 := blk_below hb6 (by omega) hg5.out
      have ze6 := hb6.size
      have hT6 : TreeAt w6 b b (l.take i) := by
        obtain ⟨nv, kv, tv, hv, us, h⟩ := hT5.out
        exact ⟨nv, kv, tv, hv, us, h.on hb6⟩
      have hB6 := hB5.out.trans (hb6.mono (by omega))
      clear hg5 hT5 hB5 hb6 hq
      replace hg6 := hide hg6
      replace hT6 := hide hT6
      replace hB6 := hide hB6
      by_cases hR : R = 0
      case neg =>
        have hb9 := hbadS.out (by rw [if_pos hR]; exact hR)
        rw [if_pos hR] at hb9
        have hne : ((R : Int) != 0) = true := by rw [bne_iff_ne]; omega
        have hR1 : 0 < R := by omega
        replace hb9 := hide hb9
        go_wp2_with fail
        go_ret3
        exact ⟨hB6.out, .inl ⟨i, R, hb9.out, hR1, rfl⟩⟩
      case pos =>
      have hrz := hRz.out hR
      subst hR
      have hS := hbadS.out
      have hN := hbadN.out
      clear hbadS hbadN
      rw [if_neg (by simp)] at hS hN
      obtain ⟨nv, kv, tv, hv, us, hC⟩ := hT6.out
      have hc0 := blk_cell hC.blk 0
      have hc2 := blk_cell hC.blk 2
      have hc3 := blk_cell hC.blk 3
      have hcn := blk_cell hg6.out 1
      obtain ⟨An, cn, hnv, -, -, -⟩ := own_isv hC.nodes
      obtain ⟨At, ct, htv, -, -, -⟩ := own_isv (hC.rows.own 0 tv _ rfl rfl)
      obtain ⟨Ah, ch, hhv, -, -, -⟩ := own_isv (hC.rows.own 1 hv _ rfl rfl)
      subst hnv htv hhv
      clear hC
      rw [htl.out] at hc0
      obtain ⟨NT, hNT⟩ : ∃ n, (topF (l.take i)).length = n := ⟨_, rfl⟩
      obtain ⟨NH, hNH⟩ : ∃ n, (hostsF (l.take i)).length = n := ⟨_, rfl⟩
      rw [hNT] at hc2 hS hN
      rw [hNH] at hc3 hS hN
      obtain ⟨b1, hb1⟩ : ∃ c, decide (1024 ≤ (i : Int)) = c := ⟨_, rfl⟩
      obtain ⟨b2, hb2⟩ : ∃ c, (kd == 1) = c := ⟨_, rfl⟩
      obtain ⟨b3, hb3⟩ : ∃ c, decide (4 ≤ (NT : Int)) = c := ⟨_, rfl⟩
      obtain ⟨b4, hb4⟩ : ∃ c, (kd == 4) = c := ⟨_, rfl⟩
      obtain ⟨b5, hb5⟩ : ∃ c, decide (512 ≤ (NH : Int)) = c := ⟨_, rfl⟩
      obtain ⟨B, hB⟩ : ∃ c, (b1 || (b2 && b3) || (b4 && b5)) = c := ⟨_, rfl⟩
      have hiff : (1024 ≤ i ∨ kd = 1 ∧ 4 ≤ NT ∨ kd = 4 ∧ 512 ≤ NH) ↔ B = true := by
        rw [← hB, ← hb1, ← hb2, ← hb3, ← hb4, ← hb5]
        simp [or_assoc]
        omega
      replace hS := hide hS
      replace hN := hide hN
      replace hiff := hide hiff
      go_upto_region 8 with fail
      go_cut [58] (fun bv wx => bv = .bool B ∧ w6 = wx)
      case first =>

        cases b1
        · cases b2
          · cases b4 <;> (simp only [Bool.or_true, Bool.or_false, Bool.and_true, Bool.and_false, Bool.true_or, Bool.false_or, Bool.true_and, Bool.false_and] at hB; subst hB; go_wp2_with fail; go_meet; exact ⟨rfl, rfl⟩)
          · cases b3
            · cases b4 <;> (simp only [Bool.or_true, Bool.or_false, Bool.and_true, Bool.and_false, Bool.true_or, Bool.false_or, Bool.true_and, Bool.false_and] at hB; subst hB; go_wp2_with fail; go_meet; exact ⟨rfl, rfl⟩)
            · (simp only [Bool.or_true, Bool.or_false, Bool.and_true, Bool.and_false, Bool.true_or, Bool.false_or, Bool.true_and, Bool.false_and] at hB; subst hB; go_wp2_with fail; go_meet; exact ⟨rfl, rfl⟩)
        · (simp only [Bool.or_true, Bool.or_false, Bool.and_true, Bool.and_false, Bool.true_or, Bool.false_or, Bool.true_and, Bool.false_and] at hB; subst hB; go_wp2_with fail; go_meet; exact ⟨rfl, rfl⟩)
      case rest =>
      obtain ⟨rfl, rfl⟩ := hcut
      clear hb1 hb2 hb3 hb4 hb5 hB hc0 hc2 hc3
      have hi2 := hiff.out
      clear hiff
      cases B
      case true =>
        have h9 := hS.out (by rw [if_pos (hi2.2 rfl)]; decide)
        rw [if_pos (hi2.2 rfl)] at h9
        clear hS hN
        replace h9 := hide h9
        clear hi2
        go_wp2_with fail
        go_ret3
        exact ⟨hB6.out, .inl ⟨i, 6, h9.out, by decide, rfl⟩⟩
      case false =>
      have hn2 : ¬(1024 ≤ i ∨ kd = 1 ∧ 4 ≤ NT ∨ kd = 4 ∧ 512 ≤ NH) := fun h => absurd (hi2.1 h) (by decide)
      have h9 := hN.out (if_neg hn2)
      have hi3 : i < 1024 := Nat.lt_of_not_le fun h => hn2 (.inl h)
      have qp2 := qp.out w6 hT6.out hi3 hrz.2.2 ⟨hrz.1, hrz.2.1⟩
      clear hS hN hi2 hn2
      clear hcn
      have d0 := blk_cell hg6.out 0
      have d1 := blk_cell hg6.out 1
      have d2 := blk_cell hg6.out 2
      have d3 := blk_cell hg6.out 3
      have d4 := blk_cell hg6.out 4
      have d5 := blk_cell hg6.out 5
      have d6 := blk_cell hg6.out 6
      replace h9 := hide h9
      replace qp2 := hide qp2
      go_wp2_with fail
      refine (qp2.out).mono ?_
      rintro e w7 ⟨rfl, hT7, hB7⟩
      clear d0 d1 d2 d3 d4 d5 d6
      replace hT7 := hide hT7
      replace hB7 := hide hB7
      go_wp2_with fail
      refine ⟨⟨i + 1, by omega, rfl, h9.out, by rw [← htk.out]; exact hT7.out, hB6.out.trans hB7.out⟩, ?_⟩
      show k - ((i : Int) + 1).toNat < k - ((i : Int)).toNat
      omega
    · obtain rfl : i = k := by omega
      have hF : treeF l = none := by unfold treeF; rw [hlen]; exact hE
      have hT9 : TreeAt wr b b l := by rw [show l.take i = l by rw [← hlen]; exact List.take_length] at hT; exact hT
      have hlt : ¬((i : Int) < (i : Int)) := by omega
      clear hE hT
      replace hF := hide hF
      replace hT9 := hide hT9
      replace hBr := hide hBr
      go_wp2_with fail
      go_ret3
      exact ⟨hBr.out, .inr ⟨hF.out, b, rfl, hT9.out⟩⟩
end Tree16
end Go.Proofs.YtcpokkkdmenmgaaDoor
/- valid: a configuration that may be, in memory; and one that lies between two blocks' numbers, whatever changes besides. No condition. -/
namespace Go.Proofs.YtcpokkkdmenmgaaDoor
open Go.RowKit Go.ChangeShapes Go.WideShapes Go.ChangeAt Go.Deep
namespace Val19
open Conf18 (Nd Vp Vw Cfg zA ndC vpC vwC cfC CfgR CfgV lt_of_blk)
open Addr05 (Adr)
open Tree16 (rightA treeF topF TreeAt TreeC Rows tnew_any TNewEnd levels_any)
/-- A configuration that may be, in memory. -/
structure VAt (w : World) (base x : Nat) (c : Cfg) : Prop where
  mk ::
  h : ∃ A1 A2 A3 k1 k2 k3 t, w.heap[x]? = some (.cells (cfC c (.slice A1 c.nodes.length k1) (.slice A2 c.vips.length k2) (.slice A3 c.views.length k3) ++ #[.pointer (some ⟨t, 0, none⟩)]) 69 (0, 0)) ∧ base ≤ x ∧
    CfgV w base c (cfC c (.slice A1 c.nodes.length k1) (.slice A2 c.vips.length k2) (.slice A3 c.views.length k3)) ∧ TreeAt w base t c.nodes
def VNewEnd (c : Cfg) (w w' : World) (e : Ending) : Prop :=
  Below w.heap.size w w' ∧ ((validF c ≠ 0 ∧ e = .returned (.tuple #[.pointer none, .int .i64 (validF c : Int)])) ∨ (validF c = 0 ∧ ∃ x, e = .returned (.tuple #[.pointer (some ⟨x, 0, none⟩), .int .i64 0]) ∧ VAt w' w.heap.size x c))
theorem TreeAt.weak {w : World} {base base' x : Nat} {ns : List Nd} (h : TreeAt w base x ns) (hb : base' ≤ base) : TreeAt w base' x ns := by
  obtain ⟨nv, kv, tv, hv, us, hC⟩ := h
  exact ⟨nv, kv, tv, hv, us, hC.blk, by have := hC.hx; omega, row_weaken hC.nodes hb, row_weaken hC.kids hb, ⟨hC.rows.len, fun i v x h1 h2 => row_weaken (hC.rows.own i v x h1 h2) hb, hC.rows.apart⟩, hC.small⟩
theorem istW {α : Type} {f : α → List Value} {size : Nat} {w : World} {B B' n : Nat} {A : Option Addr} {es : List α} (h : IsT f size w B A n es) (hb : B ≤ B') : IsT f size w B' A n es := ⟨h.1, h.2.more hb⟩
/-! ### What lies between two numbers of blocks, and stays. -/
def Kp (lo hi : Nat) (a b : World) : Prop := ∀ k, lo ≤ k → k < hi → b.heap[k]? = a.heap[k]?
theorem Kp.trans {lo hi : Nat} {a b c : World} (h : Kp lo hi a b) (k : Kp lo hi b c) : Kp lo hi a c := fun i h1 h2 => (k i h1 h2).trans (h i h1 h2)
theorem Kp.refl (lo hi : Nat) (a : World) : Kp lo hi a a := fun _ _ _ => rfl
theorem Kp.of_below {B lo hi : Nat} {a b : World} (h : Below B a b) (hh : hi ≤ B) : Kp lo hi a b := fun i _ h2 => h.block i (Nat.lt_of_lt_of_le h2 hh)
theorem Kp.of_keptS {S lo hi : Nat} {P : Nat → Prop} {a b : World} (h : KeptS S P a b) (hh : hi ≤ S) (hP : ∀ k, lo ≤ k → k < hi → ¬ P k) : Kp lo hi a b := fun i h1 h2 => h.block i (Nat.lt_of_lt_of_le h2 hh) (hP i h1 h2)
theorem row_kp {w w' : World} {base size n : Nat} {e : TypeId} {v : Value} {xs : List Value} (h : w.ownsRow base e size v n xs) (hk : Kp base w.heap.size w w') : w'.ownsRow base e size v n xs := by
  refine ⟨h.1, h.2.imp id ?_⟩
  rintro ⟨g, cap, cur, h1, h2, h3, h4⟩
  exact ⟨g, cap, cur, h1, h2, (hk g h2 (lt_of_blk h3)).trans h3, h4⟩
theorem rows_kp {w w' : World} {base : Nat} {vs : List Value} {xs : List (List Int)} (h : Tree16.Rows w base vs xs) (hk : Kp base w.heap.size w w') : Tree16.Rows w' base vs xs := ⟨h.len, fun i v x h1 h2 => row_kp (h.own i v x h1 h2) hk, h.apart⟩
theorem treeAt_kp {w w' : World} {base x : Nat} {ns : List Nd} (h : TreeAt w base x ns) (hk : Kp base w.heap.size w w') : TreeAt w' base x ns := by
  obtain ⟨nv, kv, tv, hv, us, hC⟩ := h
  exact ⟨nv, kv, tv, hv, us, (hk x hC.hx (lt_of_blk hC.blk)).trans hC.blk, hC.hx, row_kp hC.nodes hk, row_kp hC.kids hk, rows_kp hC.rows hk, hC.small⟩
theorem cfgV_kp {w w' : World} {base : Nat} {c : Cfg} {v : Array Value} (h : CfgV w base c v) (hk : Kp base w.heap.size w w') : CfgV w' base c v := ⟨row_kp h.nodes hk, row_kp h.vips hk, row_kp h.views hk, h.arr⟩
theorem VAt.kp {w w' : World} {base x : Nat} {c : Cfg} (h : VAt w base x c) (hk : Kp base w.heap.size w w') : VAt w' base x c := by
  obtain ⟨A1, A2, A3, k1, k2, k3, t, hb, hx, hv, ht⟩ := h.h
  exact ⟨⟨A1, A2, A3, k1, k2, k3, t, (hk x hx (lt_of_blk hb)).trans hb, hx, cfgV_kp hv hk, treeAt_kp ht hk⟩⟩
/-- A configuration that may be, between two numbers of blocks. -/
def VIn (w : World) (lo hi x : Nat) (c : Cfg) : Prop := ∃ w0, w0.heap.size = hi ∧ VAt w0 lo x c ∧ Kp lo hi w0 w
theorem VIn.mk {w : World} {lo x : Nat} {c : Cfg} (h : VAt w lo x c) : VIn w lo w.heap.size x c := ⟨w, rfl, h, Kp.refl _ _ _⟩
theorem VIn.at {w : World} {lo hi x : Nat} {c : Cfg} (h : VIn w lo hi x c) : VAt w lo x c := by
  obtain ⟨w0, h1, h2, h3⟩ := h
  subst h1
  exact h2.kp h3
theorem VIn.keep {w w' : World} {lo hi x : Nat} {c : Cfg} (h : VIn w lo hi x c) (hk : Kp lo hi w w') : VIn w' lo hi x c := by
  obtain ⟨w0, h1, h2, h3⟩ := h
  exact ⟨w0, h1, h2, h3.trans hk⟩
theorem VIn.x {w : World} {lo hi x : Nat} {c : Cfg} (h : VIn w lo hi x c) : lo ≤ x ∧ x < hi := by
  obtain ⟨w0, h1, h2, h3⟩ := h
  obtain ⟨A1, A2, A3, k1, k2, k3, t, hb, hx, hv, ht⟩ := h2.h
  exact ⟨hx, h1 ▸ lt_of_blk hb⟩
/-- A configuration as a value, between two numbers of blocks. -/
def CIn (w : World) (lo hi : Nat) (c : Cfg) (v : Array Value) : Prop := ∃ w0, w0.heap.size = hi ∧ CfgV w0 lo c v ∧ Kp lo hi w0 w
theorem CIn.mk {w : World} {lo : Nat} {c : Cfg} {v : Array Value} (h : CfgV w lo c v) : CIn w lo w.heap.size c v := ⟨w, rfl, h, Kp.refl _ _ _⟩
theorem CIn.at {w : World} {lo hi : Nat} {c : Cfg} {v : Array Value} (h : CIn w lo hi c v) : CfgV w lo c v := by
  obtain ⟨w0, h1, h2, h3⟩ := h
  subst h1
  exact cfgV_kp h2 h3
theorem CIn.keep {w w' : World} {lo hi : Nat} {c : Cfg} {v : Array Value} (h : CIn w lo hi c v) (hk : Kp lo hi w w') : CIn w' lo hi c v := by
  obtain ⟨w0, h1, h2, h3⟩ := h
  exact ⟨w0, h1, h2, h3.trans hk⟩
end Val19
end Go.Proofs.YtcpokkkdmenmgaaDoor
/- store: a store in memory: its configuration lies between two numbers of blocks, the weights that were set in a map. No condition. -/
namespace Go.Proofs.YtcpokkkdmenmgaaDoor
open Go.RowKit Go.ChangeShapes Go.WideShapes Go.ChangeAt Go.Deep
namespace Store20
open Conf18 (Nd Vp Vw Cfg zA MapI lt_of_blk kl kLaw)
open Addr05 (Adr MaxAt)
open Val19
abbrev big : Nat := 1099511627776
theorem mapI_on {w w' : World} {B n : Nat} {f : List UInt8 → Option Nat} (h : MapI w B n f) (hb : w'.heap[B]? = w.heap[B]?) : MapI w' B n f := by
  obtain ⟨D, ⟨es, k, h1, h2⟩, h3⟩ := h
  exact ⟨D, ⟨es, k, hb.trans h1, h2⟩, h3⟩
theorem mapI_mono {w : World} {B n m : Nat} {f : List UInt8 → Option Nat} (h : MapI w B n f) (hn : n ≤ m) : MapI w B m f := by
  obtain ⟨D, h1, h2⟩ := h
  exact ⟨D, h1.mono hn, h2⟩
theorem mapI_lt {w : World} {B n : Nat} {f : List UInt8 → Option Nat} (h : MapI w B n f) : B < w.heap.size := by
  obtain ⟨D, h1, h2⟩ := h
  exact h1.lt
/-- clear of a map. -/
theorem run_clear {w : World} {B n : Nat} {f : List UInt8 → Option Nat} (h : MapI w B n f) :
    ∃ w', (∀ ty, (Builtin.clear_ #[43] ty #[.map (some B)]).run Tryd.prog w = .ok (.tuple #[]) w') ∧ MapI w' B 0 (fun _ => none) ∧ w.grownBy w' (some B) := by
  have hlt := mapI_lt h
  obtain ⟨D, ⟨es, k, hb, -⟩, -⟩ := h
  refine ⟨{ w with heap := w.heap.setIfInBounds B (.map #[] k) }, fun ty => ?_, ⟨.map [], ⟨#[], k, ?_, ⟨by simp, MapKept.stamped_empty k, by simp⟩, Nat.le_refl _, rfl⟩, fun s => ⟨rfl, fun v h => by cases h⟩⟩, ?_⟩
  · have hm := Tryd.underlying43
    simp [Builtin.clear_, run_underlying hm, MapKept.run_getObj_map hb, MapKept.run_setObj_map _ hb, Result.andThen]
  · simp [hlt]
  · refine ⟨rfl, rfl, rfl, by simp, fun j hj hne => ?_⟩
    show (w.heap.setIfInBounds B (.map #[] k))[j]? = _
    rw [Array.getElem?_setIfInBounds_ne (fun e => hne (by rw [e]))]
theorem keyK2 (s : List UInt8) (h : s.length ≤ maxLen) : keyOf Tryd.prog 9 (.string (str s)) = some (kl s) := Go.WideMaps.keyOf_string_mk Tryd.underlying9 (by rw [show (str s).size = s.length from List.size_toArray]; exact h)
section
variable {o : Oper} {a : Act} {Q : Exit → Act → World → Prop} {w : World}
theorem wp_putI2 (m x u : Operand) (hop : o.op = Op.mapUpdate 43 m x u) {K : Act → World → Prop} (B n : Nat) (f : List UInt8 → Option Nat) (s : List UInt8) (v : Nat) (hs : s.length ≤ maxLen) (hn : n < 1099511627776) (hv : (Lit.int .i64 (v : Int)).wf = true)
    (hm : a.eval m = .map (some B)) (hx : a.eval x = .string (str s)) (hu : a.eval u = .int .i64 (v : Int)) (hB : MapI w B n f) (hK : ∀ w', MapI w' B (n + 1) (fun y => if y = s then some v else f y) → w.grownBy w' (some B) → ∀ v, K (a.put o.dst v) w') : o.wp Tryd.prog a w K Q := by
  obtain ⟨D, h1, h2⟩ := hB
  obtain ⟨w', hrun, h3, h4⟩ := h1.update kLaw Tryd.underlying43 (by unfold maxLen; omega) (keyK2 s hs) (plainElem_int Tryd.underlying3 (a := (v : Int)) hv)
  have hM : MapI w' B (n + 1) (fun y => if y = s then some v else f y) := by
    refine ⟨_, h3, fun y => ?_⟩
    by_cases e : y = s
    · subst e
      refine ⟨?_, fun v' hv' z => ?_⟩
      · rw [Maps.has_put_same h1.isMap (by trivial)]; simp
      · have hv2 : some v = some v' := by simpa using hv'
        cases hv2
        rw [Maps.atKey_put_same h1.isMap (by trivial)]
    · have hne : kl y ≠ kl s := by intro e2; exact e (by simpa [kl] using e2)
      refine ⟨?_, fun v' hv' z => ?_⟩
      · rw [Maps.has_put_other hne, (h2 y).1]; simp [e]
      · rw [Maps.atKey_put_other hne]; exact (h2 y).2 v' (by simpa [e] using hv') z
  unfold Oper.wp
  simp [execOp, hop, hm, hx, hu, hrun, Result.andThen]
  exact hK w' hM h4 _
end
theorem look2 {w : World} {B n : Nat} {f : List UInt8 → Option Nat} (h : MapI w B n f) (s : List UInt8) (hs : s.length ≤ maxLen) :
    (Instr.lookup 43 (.map (some B)) (.string (str s)) true).run Tryd.prog w = .ok (.tuple #[.int .i64 (((f s).getD 0 : Nat) : Int), .bool (f s).isSome]) w := by
  obtain ⟨D, h1, h2⟩ := h
  obtain ⟨v, ps, hrun, hv⟩ := h1.look_ok kLaw Tryd.underlying43 (Conf18.zeroI w) (plainElem_int Tryd.underlying3 (a := 0) (by decide)) (keyK2 s hs)
  obtain ⟨c, rfl, hc, _⟩ := plainElem_int_inv Tryd.underlying3 hv
  rw [hrun, (h2 s).1]
  have hc1 := congrArg Prod.fst hc
  dsimp only at hc1
  have : c = (((f s).getD 0 : Nat) : Int) := by
    rcases hf : f s with _ | u
    · have h3 := Maps.atKey_of_not_has (D := D) (k := kl s) (by rw [(h2 s).1, hf]; rfl) (.lit (.int .i64 0))
      rw [h3] at hc1
      simpa using hc1.symm
    · rw [(h2 s).2 u hf] at hc1
      simpa using hc1.symm
  rw [this]
def NowV (w : World) (lo hi : Nat) (v : Value) : Option Cfg → Prop
  | none => v = .pointer none
  | some c => ∃ x, v = .pointer (some ⟨x, 0, none⟩) ∧ VIn w lo hi x c
theorem NowV.keep {w w' : World} {lo hi : Nat} {v : Value} {c : Option Cfg} (h : NowV w lo hi v c) (hk : Kp lo hi w w') : NowV w' lo hi v c := by
  rcases c with _ | c
  · exact h
  · obtain ⟨x, h1, h2⟩ := h
    exact ⟨x, h1, h2.keep hk⟩
/-- A store in memory. -/
structure StC (w : World) (s mp lo hi n : Nat) (nv : Value) (S : St) : Prop where
  blk : w.heap[s]? = some (.cells #[nv, .int .i64 (S.gen : Int), .map (some mp), .bool true] 45 (0, 0))
  now : NowV w lo hi nv S.c
  map : MapI w mp n S.sets
  ok : S.ok big
  hs : s < lo ∨ hi ≤ s
  hm : mp < lo ∨ hi ≤ mp
  hh : hi ≤ w.heap.size
section
variable {w w' : World} {s mp lo hi n : Nat} {nv : Value} {S : St}
theorem StC.ne (h : StC w s mp lo hi n nv S) : s ≠ mp := by
  rintro rfl
  obtain ⟨es, k, h1⟩ := h.map.blk
  rw [h.blk] at h1
  cases h1
theorem StC.lt (h : StC w s mp lo hi n nv S) : s < w.heap.size ∧ mp < w.heap.size := ⟨lt_of_blk h.blk, mapI_lt h.map⟩
theorem StC.on (h : StC w s mp lo hi n nv S) (h1 : w'.heap[s]? = w.heap[s]?) (h2 : w'.heap[mp]? = w.heap[mp]?) (hk : Kp lo hi w w') (hz : w.heap.size ≤ w'.heap.size) : StC w' s mp lo hi n nv S :=
  ⟨h1.trans h.blk, h.now.keep hk, mapI_on h.map h2, h.ok, h.hs, h.hm, Nat.le_trans h.hh hz⟩
theorem StC.below (h : StC w s mp lo hi n nv S) (hb : Below w.heap.size w w') : StC w' s mp lo hi n nv S :=
  h.on (hb.block _ h.lt.1) (hb.block _ h.lt.2) (Kp.of_below hb h.hh) hb.size
theorem StC.keptS {P : Nat → Prop} (h : StC w s mp lo hi n nv S) (hb : KeptS w.heap.size P w w') (h1 : ¬ P s) (h2 : ¬ P mp) (h3 : ∀ k, lo ≤ k → k < hi → ¬ P k) : StC w' s mp lo hi n nv S :=
  h.on (hb.block _ h.lt.1 h1) (hb.block _ h.lt.2 h2) (Kp.of_keptS hb h.hh h3) hb.size
theorem maxAt_on (h : MaxAt w) (hb : w'.heap[0]? = w.heap[0]?) : MaxAt w' := by
  obtain ⟨m, hm⟩ := h
  exact ⟨m, (World.cell?_of_block hb).trans hm⟩
/-- The variable that is read lies apart from a store. -/
theorem StC.max (h : StC w s mp lo hi n nv S) (hp : ∃ p, nv = .pointer p) (hM : MaxAt w) : s ≠ 0 ∧ mp ≠ 0 := by
  obtain ⟨m, hm⟩ := hM
  obtain ⟨p, rfl⟩ := hp
  constructor
  · intro e
    have h1 := blk_cell h.blk 0
    rw [e, hm] at h1
    cases h1
  · intro e
    obtain ⟨es, k, h1⟩ := h.map.blk
    rw [e] at h1
    simp [World.cell?, h1] at hm
theorem NowV.ptr {c : Option Cfg} (h : NowV w lo hi nv c) : ∃ p, nv = .pointer p := by
  rcases c with _ | c
  · exact ⟨_, h⟩
  · obtain ⟨x, h1, _⟩ := h
    exact ⟨_, h1⟩
theorem StC.maxAt {P : Nat → Prop} (hM : MaxAt w) (hb : KeptS w.heap.size P w w') (h1 : ¬ P 0) : MaxAt w' := by
  obtain ⟨m, hm⟩ := hM
  exact maxAt_on ⟨m, hm⟩ (hb.block _ (World.block_lt_of_cell? w _ hm) h1)
end
/-- What a change of a store leaves: the store, whose configuration is the elder one or lies in new memory. -/
def StTo (w w' : World) (s mp lo hi n : Nat) (S' : St) : Prop :=
  ∃ lo' hi' n' nv', StC w' s mp lo' hi' n' nv' S' ∧ n' ≤ n + 1 ∧ ((lo' = lo ∧ hi' = hi) ∨ w.heap.size ≤ lo') ∧ KeptS w.heap.size (fun k => k = s ∨ k = mp) w w'
end Store20
end Go.Proofs.YtcpokkkdmenmgaaDoor
