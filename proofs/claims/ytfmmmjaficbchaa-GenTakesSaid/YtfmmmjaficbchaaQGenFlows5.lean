/- The statement GenFlows, walked. Conditions: numbers of 64 bits. -/
import Derived.Test.YtfmmmjaficbchaaQGenFlows4
namespace Go.Proofs.Ytfmmmjaficbchaa
open Go.RowKit Go.ChangeShapes Go.WideShapes Go.ChangeAt Go.Deep
namespace Gen35
open Pkt (tuA tuA_one size_tu)
set_option maxRecDepth 20000 in
set_option maxHeartbeats 4000000 in
theorem neq_tu {op : Oper} (pr : Int) (sv : Bool) (shi slo : Int) (dv : Bool) (dhi dlo sp dp : Int) (ev : Operand → Value) (x y : Operand) (ho : op.op = .binOp .neq 32 x y 32) (hx : ev x = .agg (tuA pr sv shi slo dv dhi dlo sp dp)) (hy : ev y = .agg (tuA pr sv shi slo dv dhi dlo sp dp)) (w : World) :
    (execOp ev op).run Try.prog w = .ok (.value (.bool false)) w := by
  unfold execOp
  simp only [ho, hx, hy]
  clear hx hy ho
  unfold tuA
  simp [go_sem]
theorem flows_no (p : PlanL) (n : Int) (hR : ¬ rightQ p) (w : World) : Calls Try.prog 8 #[.agg (plA p), .int .i64 n] w fun e w' => e = .returned (.bool true) ∧ Below w.heap.size w w' := by
  have hN := fun w => new_no p hR w
  unfold plA at hN ⊢
  obtain ⟨w1, hw1⟩ : ∃ w1, w.alloc (.cells #[.int .u64 (p.key : Int), .int .i64 p.cl, .int .i64 p.po, .bool p.v6, .int .u64 (p.hi : Int), .int .u64 (p.lo : Int), .int .i64 p.pr, .int .i64 p.vp, .int .i64 p.co, .bool p.na, .int .i64 p.mo] 51) = w1 := ⟨_, rfl⟩
  have hB : Below w.heap.size w w1 := hw1 ▸ (Below.refl _ _).alloc (Nat.le_refl _) _
  have hc := blk_cell (hw1 ▸ blk_new w 51 #[.int .u64 (p.key : Int), .int .i64 p.cl, .int .i64 p.po, .bool p.v6, .int .u64 (p.hi : Int), .int .u64 (p.lo : Int), .int .i64 p.pr, .int .i64 p.vp, .int .i64 p.co, .bool p.na, .int .i64 p.mo])
  replace hN := hide hN
  replace hB := hide hB
  go_enter Try.func8, Try.ntmps8
  go_upto_region 1 with fail
  clear hw1
  go_wp2_with fail
  clear hc
  refine (hN.out _).mono ?_
  rintro e w2 ⟨rfl, hb2⟩
  replace hB := hide (hB.out.trans (hb2.mono hB.out.size))
  clear hb2
  go_wp2_with fail
  refine (awake_any _).mono ?_
  rintro e w3 ⟨rfl, hb3⟩
  replace hB := hide (hB.out.trans (hb3.mono hB.out.size))
  clear hb3
  go_wp2_with fail
  go_ret
  exact ⟨by rfl, hB.out⟩
set_option maxRecDepth 20000 in
set_option maxHeartbeats 8000000 in
theorem flows_ok (p : PlanL) (n : Int) (hR : rightQ p) (w : World) : Calls Try.prog 8 #[.agg (plA p), .int .i64 n] w fun e w' => e = .returned (.bool true) ∧ Below w.heap.size w w' := by
  have hN := fun w => new_ok p hR w
  unfold plA at hN ⊢
  obtain ⟨w1, hw1⟩ : ∃ w1, w.alloc (.cells #[.int .u64 (p.key : Int), .int .i64 p.cl, .int .i64 p.po, .bool p.v6, .int .u64 (p.hi : Int), .int .u64 (p.lo : Int), .int .i64 p.pr, .int .i64 p.vp, .int .i64 p.co, .bool p.na, .int .i64 p.mo] 51) = w1 := ⟨_, rfl⟩
  have hB : Below w.heap.size w w1 := hw1 ▸ (Below.refl _ _).alloc (Nat.le_refl _) _
  have hb := hw1 ▸ blk_new w 51 #[.int .u64 (p.key : Int), .int .i64 p.cl, .int .i64 p.po, .bool p.v6, .int .u64 (p.hi : Int), .int .u64 (p.lo : Int), .int .i64 p.pr, .int .i64 p.vp, .int .i64 p.co, .bool p.na, .int .i64 p.mo]
  have hc := blk_cell hb
  have z1 := hB.size
  replace hN := hide hN
  replace hB := hide hB
  replace hb := hide hb
  replace hR := hide hR
  go_enter Try.func8, Try.ntmps8
  go_upto_region 1 with fail
  clear hw1
  go_wp2_with fail
  clear hc
  refine (hN.out _).mono ?_
  rintro e w2 ⟨s, g, rfl, zg, zs, hne, hs, hg, hb2⟩
  have hbb := blk_on hb2 hb.out
  replace hB := hide (hB.out.trans (hb2.mono hB.out.size))
  clear hb2 hb
  have hc := blk_cell hbb
  have zs2 := blk_lt hs
  have zg2 := blk_lt hg
  have zb := hB.out.size
  obtain ⟨w3, hw3⟩ : ∃ w3, w2.alloc (.cells (plaA p p.key (.slice none 0 0)) 59) = w3 := ⟨_, rfl⟩
  have hb3 : Below w2.heap.size w2 w3 := hw3 ▸ (Below.refl _ _).alloc (Nat.le_refl _) _
  have hx3 : PlaAt w3 w2.heap.size p p.key (.slice none 0 0) := hw3 ▸ blk_new _ _ _
  have hs3 := blk_on hb3 hs
  have hg3 := blk_on hb3 hg
  have hB3 := hB.out.trans (hb3.mono zb)
  clear hb3 hs hg hbb hB
  unfold plaA at hw3
  replace hs3 := hide hs3
  replace hg3 := hide hg3
  replace hx3 := hide hx3
  replace hB3 := hide hB3
  go_upto_region 5 with fail
  clear hc hw3
  generalize w2.heap.size = x at hx3 zs2 zg2 zb ⊢
  have zx : x < w3.heap.size := blk_lt hx3.out
  have zg' : w.heap.size ≤ g := by omega
  have zx' : w.heap.size ≤ x := zb
  go_wp2_with fail
  go_loopw [8] (fun i wr => ∃ k : Nat, k ≤ 60 ∧ i = .int .i64 (k : Int) ∧ ∃ a, SrcAt wr s g p (.slice none 0 0) ∧ GenAt wr g a ∧ PlaAt wr x p a (.slice none 0 0) ∧ Below w.heap.size w wr) (fun i _ => 60 - (intOf i).toNat)
  case atStart => exact ⟨0, by omega, rfl, _, hs3.out, hg3.out, hx3.out, hB3.out⟩
  case round =>
    obtain ⟨k, hk, rfl, a, hs, hg, hx, hB⟩ := hrel
    clear hs3 hg3 hx3 hB3
    have hgo : ((k : Int) < n ∧ (k : Int) < 60) ∨ ((k : Int) < n ∧ ¬ (k : Int) < 60) ∨ ¬ (k : Int) < n := by omega
    have hF := fun w hs hg => flow_any s g a p (.slice none 0 0) hR.out hne w hs hg
    have hL := fun w hx => lflow_any x a p (.slice none 0 0) hR.out w hx
    obtain ⟨a2, ha2⟩ : ∃ b, stepN (stepN a) = b := ⟨_, rfl⟩
    rw [ha2] at hF hL
    obtain ⟨T, hT⟩ : ∃ T, flowT p a = T := ⟨_, rfl⟩
    rw [hT] at hF hL
    replace hs := hide hs
    replace hg := hide hg
    replace hx := hide hx
    replace hB := hide hB
    replace hF := hide hF
    replace hL := hide hL
    replace ha2 := hide ha2
    replace hT := hide hT
    rcases hgo with ⟨q1, q2⟩ | ⟨q1, q2⟩ | q1
    · have zw := hB.out.size
      go_upto_region 8 with fail
      apply wp_region_lit
      iterate 1 (refine wpList_plain rfl fun K hK => ?_; go_simp; refine hK _ _ ?_; clear hK K)
      refine wpList_plain rfl fun K hK => ?_
      go_simp
      refine (hF.out _ hs.out hg.out).mono ?_
      rintro e w5 ⟨rfl, hg5, g5⟩
      go_simp
      refine hK _ _ ?_
      clear hK K
      iterate 1 (refine wpList_plain rfl fun K hK => ?_; go_simp; refine hK _ _ ?_; clear hK K)
      have hs5 := grown_other g5 (blk_lt hs.out) (Ne.symm hne) hs.out
      have hx5 := grown_other g5 (blk_lt hx.out) (by omega) hx.out
      have hB5 := hB.out.trans (below_grown g5 zw zg')
      clear g5 hs hg hx hB
      replace hs5 := hide hs5
      replace hg5 := hide hg5
      replace hx5 := hide hx5
      replace hB5 := hide hB5
      refine wpList_plain rfl fun K hK => ?_
      go_simp
      refine (hL.out _ hx5.out).mono ?_
      rintro e w6 ⟨rfl, hx6, g6⟩
      go_simp
      refine hK _ _ ?_
      clear hK K
      refine wpl_val (.bool false) rfl (neq_tu _ _ _ _ _ _ _ _ _ _ (.tmp 36) (.tmp 38) rfl (by rw [← hT.out]; rfl) (by rw [← hT.out]; rfl) w6) ?_
      dsimp only [Act.put]
      refine wpList_nil ?_
      go_simp
      have hs6 := grown_other g6 (blk_lt hs5.out) (by omega) hs5.out
      have hg6 := grown_other g6 (blk_lt hg5.out) (by omega) hg5.out
      have hB6 := hB5.out.trans (below_grown g6 hB5.out.size zx')
      clear g6 hs5 hg5 hx5 hB5
      replace hs6 := hide hs6
      replace hg6 := hide hg6
      replace hx6 := hide hx6
      replace hB6 := hide hB6
      go_wp2_with fail
      go_roundw
      case rel => exact ⟨k + 1, by omega, by go_num, a2, hs6.out, hg6.out, hx6.out, hB6.out⟩
      case measure => simp [intOf]; omega
    · go_wp2_with fail
      refine (awake_any _).mono ?_
      rintro e w7 ⟨rfl, hb7⟩
      replace hB := hide (hB.out.trans (hb7.mono hB.out.size))
      clear hb7
      go_wp2_with fail
      go_ret
      exact ⟨by rfl, hB.out⟩
    · go_wp2_with fail
      refine (awake_any _).mono ?_
      rintro e w7 ⟨rfl, hb7⟩
      replace hB := hide (hB.out.trans (hb7.mono hB.out.size))
      clear hb7
      go_wp2_with fail
      go_ret
      exact ⟨by rfl, hB.out⟩
theorem genFlows_walk (key cl po : Int) (v6 : Bool) (hi lo : Int) (pr vp co : Int) (na : Bool) (mo n : Int) (w : World) (h1 : (Lit.int .u64 key).wf = true) (_ : (Lit.int .i64 cl).wf = true) (_ : (Lit.int .i64 po).wf = true) (h2 : (Lit.int .u64 hi).wf = true) (h3 : (Lit.int .u64 lo).wf = true) (_ : (Lit.int .i64 pr).wf = true) (_ : (Lit.int .i64 vp).wf = true) (_ : (Lit.int .i64 co).wf = true) (_ : (Lit.int .i64 mo).wf = true) (_ : (Lit.int .i64 n).wf = true) :
    Calls Try.prog 8 #[.agg #[.int .u64 key, .int .i64 cl, .int .i64 po, .bool v6, .int .u64 hi, .int .u64 lo, .int .i64 pr, .int .i64 vp, .int .i64 co, .bool na, .int .i64 mo], .int .i64 n] w fun e w' => e = .returned (.bool true) ∧ Below w.heap.size w w' := by
  have q1 := u64_wf h1
  have q2 := u64_wf h2
  have q3 := u64_wf h3
  obtain ⟨k, rfl⟩ : ∃ a : Nat, key = (a : Int) := ⟨key.toNat, by omega⟩
  obtain ⟨a, rfl⟩ : ∃ a : Nat, hi = (a : Int) := ⟨hi.toNat, by omega⟩
  obtain ⟨b, rfl⟩ : ∃ a : Nat, lo = (a : Int) := ⟨lo.toNat, by omega⟩
  by_cases hR : rightQ ⟨k, cl, po, v6, a, b, pr, vp, co, na, mo⟩
  · exact flows_ok ⟨k, cl, po, v6, a, b, pr, vp, co, na, mo⟩ n hR w
  · exact flows_no ⟨k, cl, po, v6, a, b, pr, vp, co, na, mo⟩ n hR w
end Gen35
end Go.Proofs.Ytfmmmjaficbchaa
