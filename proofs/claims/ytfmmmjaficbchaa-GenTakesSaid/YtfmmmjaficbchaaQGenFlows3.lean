/- gen: a packet of a flow: the code's. Conditions: a plan that may be. -/
import Derived.Test.YtfmmmjaficbchaaQGenFlows2
namespace Go.Proofs.Ytfmmmjaficbchaa
open Go.RowKit Go.ChangeShapes Go.WideShapes Go.ChangeAt Go.Deep
namespace Gen35
open Mix (mixN belN mixN_lt)
open Pkt (InEnd tuA tuA_one wrapB dgU sgU dgmK sgmK)
set_option maxRecDepth 20000 in
set_option maxHeartbeats 8000000 in
theorem packet_any (s g a : Nat) (p : PlanL) (ov : Value) (hR : rightQ p) (hi : p.hi < 18446744073709551616) (lo : p.lo < 18446744073709551616) (hne : g ≠ s) (x : Nat × Nat) (h1 : x.1 ≤ 65535) (h2 : x.2 ≤ 65535) (fl : Nat) (hf : fl ≤ 255) (w : World) (hs : SrcAt w s g p ov) (hg : GenAt w g a) :
    Calls Try.prog 48 #[.pointer (some ⟨s, 0, none⟩), .agg (flowP p x.1 x.2), .int .i64 (fl : Int)] w fun e w' => ∃ v, e = .returned v ∧ OwnB w' w.heap.size v (packetB p x fl (bytesT p a)) ∧ GenAt w' g (bytesS p a) ∧ w.grownBy w' (some g) := by
  have hR' := hR
  obtain ⟨r1, r2, r3, r4, r5, r6, r7, r8, r9, r10⟩ := hR
  have zg : g < w.heap.size := blk_lt hg
  have zs : s < w.heap.size := blk_lt hs
  have hBy := fun w hs hg => bytes_any s g a p ov r5 r6 hne w hs hg
  have hbl := bytesT_length p a r5 r6
  have hD := fun h17 base v w ho => dgm_any p hR' hi lo x h1 h2 h17 fl base v (bytesT p a) w ho (by omega)
  have hS := fun h6 base v w ho => sgm_any p hR' hi lo x h1 h2 h6 fl hf base v (bytesT p a) w ho (by omega)
  obtain ⟨bs, hbs⟩ : ∃ b, bytesT p a = b := ⟨_, rfl⟩
  obtain ⟨a2, ha2⟩ : ∃ b, bytesS p a = b := ⟨_, rfl⟩
  obtain ⟨U, hU⟩ : ∃ U, packetB p x fl bs = U := ⟨_, rfl⟩
  rw [hbs] at hBy hD hS ⊢
  rw [ha2] at hBy ⊢
  rw [hU] at hD hS ⊢
  unfold flowP tuA at hD hS ⊢
  obtain ⟨w1, hw1⟩ : ∃ w1, w.alloc (.cells #[.int .i64 p.pr, .bool p.v6, .int .u64 (srcHi p : Int), .int .u64 (srcLo p x.1 : Int), .bool p.v6, .int .u64 (p.hi : Int), .int .u64 (p.lo : Int), .int .i64 (x.2 : Int), .int .i64 p.vp] 32) = w1 := ⟨_, rfl⟩
  have hb1 : Below w.heap.size w w1 := hw1 ▸ (Below.refl _ _).alloc (Nat.le_refl _) _
  have ht := hw1 ▸ blk_new w 32 #[.int .i64 p.pr, .bool p.v6, .int .u64 (srcHi p : Int), .int .u64 (srcLo p x.1 : Int), .bool p.v6, .int .u64 (p.hi : Int), .int .u64 (p.lo : Int), .int .i64 (x.2 : Int), .int .i64 p.vp]
  have hG : w.grownBy w1 (some g) := grownBy_of hb1
  replace hs := blk_on hb1 hs
  replace hg := blk_on hb1 hg
  have z1 := hb1.size
  have hct := blk_cell ht
  clear hb1
  replace hs := hide hs
  replace hg := hide hg
  replace hG := hide hG
  replace ht := hide ht
  replace hBy := hide hBy
  replace hD := hide hD
  replace hS := hide hS
  replace hbs := hide hbs
  replace ha2 := hide ha2
  replace hU := hide hU
  go_enter Try.func48, Try.ntmps48
  go_upto_region 1 with fail
  clear hw1
  by_cases h17 : p.pr = 17
  · have t1 : (p.pr == 17) = true := by rw [h17]; rfl
    replace h17 := hide h17
    go_upto_region 3 with fail
    clear hct
    refine wp_region_X (KeptS w1.heap.size (fun k => k = g)) (by as_aux_lemma => kernel_rfl) ?_
    intro wd hbd
    have hsd := blk_on hbd hs.out
    have hgd := blk_on hbd hg.out
    have htd := blk_on hbd ht.out
    have zd := hbd.size
    have zt : w.heap.size < w1.heap.size := blk_lt ht.out
    have hcL := fun (l : RelW (KeptS w1.heap.size (fun k => k = g)) wd) (o : Nat) => blk_cell ((l.hk.block w.heap.size zt (by omega)).trans htd) o
    refine wpX_seg (KeptS w1.heap.size (fun k => k = g)) 0 2 (fuel := 6) (by as_aux_lemma => kernel_rfl) (fun d _ _ _ _ h => by cases d <;> exact h) (by as_aux_lemma => kernel_rfl) (by as_aux_lemma => kernel_rfl) ?_
    simp only [List.drop_zero, List.take_succ_cons, List.take_zero]
    iterate 2 (refine wpQX_step (fun K hK => ?_); go_simp; refine hK _ ?_; clear hK K)
    refine wpQF_nil ?_
    clear hcL htd
    refine wpF_step 2 rfl (by as_aux_lemma => kernel_rfl) (fun K hK => ?_)
    go_simp
    go_at_call 75
    refine (hBy.out _ hsd hgd).mono ?_
    rintro e w3 ⟨v3, rfl, ho3, hg3, g3⟩
    refine hK _ _ (Pkt.keptS_grown1 g3 zd rfl) ?_
    clear hK K
    have hG3 := grown_trans' _ _ _ (grown_trans' _ _ _ hG.out (grown_of_below hbd)) g3
    have z3 := g3.size
    clear g3 hsd hgd hbd
    replace hG3 := hide hG3
    replace hg3 := hide hg3
    replace ho3 := hide ho3
    refine wpF_step 3 rfl (by as_aux_lemma => kernel_rfl) (fun K hK => ?_)
    go_simp
    go_at_call 16
    refine (hD.out h17.out _ _ _ ho3.out).mono ?_
    rintro e w4 ⟨v4, rfl, h4, -, hb4⟩
    refine hK _ _ (keptS_of_below hb4 (by omega)) ?_
    clear hK K
    have ho4 := (h4 rfl).weaken (base' := w.heap.size) (by omega)
    have hg4 := blk_on hb4 hg3.out
    have hG4 := grown_trans' _ _ _ hG3.out (grown_of_below hb4)
    clear h4 hb4 ho3
    replace ho4 := hide ho4
    replace hg4 := hide hg4
    replace hG4 := hide hG4
    refine wpX_seg (KeptS w1.heap.size (fun k => k = g)) 4 4 (fuel := 0) (by as_aux_lemma => kernel_rfl) (fun d _ _ _ _ h => by cases d <;> exact h) (by as_aux_lemma => kernel_rfl) (by as_aux_lemma => kernel_rfl) ?_
    simp only [List.drop_succ_cons, List.drop_zero, List.take_succ_cons, List.take_zero]
    iterate 4 (refine wpQX_step (fun K hK => ?_); go_simp; refine hK _ ?_; clear hK K)
    refine wpQF_nil ?_
    refine wpF_done (by as_aux_lemma => kernel_rfl) ?_ 0
    go_wp2_with fail
    go_ret
    exact ⟨_, rfl, ho4.out, hg4.out, hG4.out⟩
  · have t1 : (p.pr == 17) = false := beq_eq_false_iff_ne.2 h17
    have h6 : p.pr = 6 := by omega
    replace h6 := hide h6
    replace h17 := hide h17
    go_upto_region 4 with fail
    clear hct
    refine wp_region_X (KeptS w1.heap.size (fun k => k = g)) (by as_aux_lemma => kernel_rfl) ?_
    intro wd hbd
    have hsd := blk_on hbd hs.out
    have hgd := blk_on hbd hg.out
    have htd := blk_on hbd ht.out
    have zd := hbd.size
    have zt : w.heap.size < w1.heap.size := blk_lt ht.out
    have hcL := fun (l : RelW (KeptS w1.heap.size (fun k => k = g)) wd) (o : Nat) => blk_cell ((l.hk.block w.heap.size zt (by omega)).trans htd) o
    refine wpX_seg (KeptS w1.heap.size (fun k => k = g)) 0 3 (fuel := 6) (by as_aux_lemma => kernel_rfl) (fun d _ _ _ _ h => by cases d <;> exact h) (by as_aux_lemma => kernel_rfl) (by as_aux_lemma => kernel_rfl) ?_
    simp only [List.drop_zero, List.take_succ_cons, List.take_zero]
    iterate 3 (refine wpQX_step (fun K hK => ?_); go_simp; refine hK _ ?_; clear hK K)
    refine wpQF_nil ?_
    clear hcL htd
    refine wpF_step 3 rfl (by as_aux_lemma => kernel_rfl) (fun K hK => ?_)
    go_simp
    go_at_call 75
    refine (hBy.out _ hsd hgd).mono ?_
    rintro e w3 ⟨v3, rfl, ho3, hg3, g3⟩
    refine hK _ _ (Pkt.keptS_grown1 g3 zd rfl) ?_
    clear hK K
    have hG3 := grown_trans' _ _ _ (grown_trans' _ _ _ hG.out (grown_of_below hbd)) g3
    have z3 := g3.size
    clear g3 hsd hgd hbd
    replace hG3 := hide hG3
    replace hg3 := hide hg3
    replace ho3 := hide ho3
    refine wpF_step 4 rfl (by as_aux_lemma => kernel_rfl) (fun K hK => ?_)
    go_simp
    go_at_call 18
    refine (hS.out h6.out _ _ _ ho3.out).mono ?_
    rintro e w4 ⟨v4, rfl, h4, -, hb4⟩
    refine hK _ _ (keptS_of_below hb4 (by omega)) ?_
    clear hK K
    have ho4 := (h4 rfl).weaken (base' := w.heap.size) (by omega)
    have hg4 := blk_on hb4 hg3.out
    have hG4 := grown_trans' _ _ _ hG3.out (grown_of_below hb4)
    clear h4 hb4 ho3
    replace ho4 := hide ho4
    replace hg4 := hide hg4
    replace hG4 := hide hG4
    refine wpX_seg (KeptS w1.heap.size (fun k => k = g)) 5 4 (fuel := 0) (by as_aux_lemma => kernel_rfl) (fun d _ _ _ _ h => by cases d <;> exact h) (by as_aux_lemma => kernel_rfl) (by as_aux_lemma => kernel_rfl) ?_
    simp only [List.drop_succ_cons, List.drop_zero, List.take_succ_cons, List.take_zero]
    iterate 4 (refine wpQX_step (fun K hK => ?_); go_simp; refine hK _ ?_; clear hK K)
    refine wpQF_nil ?_
    refine wpF_done (by as_aux_lemma => kernel_rfl) ?_ 0
    go_wp2_with fail
    go_ret
    exact ⟨_, rfl, ho4.out, hg4.out, hG4.out⟩
/-! ### The next packet -/
def flowN (p : PlanL) (a : Nat) : Nat × Nat := (belN (mixN (stepN a)) p.cl.toNat, 32768 + belN (mixN (stepN (stepN a))) p.po.toNat)
theorem flowT_eq (p : PlanL) (a : Nat) : flowT p a = flowP p (flowN p a).1 (flowN p a).2 := rfl
theorem flowN_le (p : PlanL) (a : Nat) (hR : rightQ p) : (flowN p a).1 ≤ 65535 ∧ (flowN p a).2 ≤ 65535 := by
  obtain ⟨r1, r2, r3, r4, r5, r6, r7, r8, r9, r10⟩ := hR
  have n1 := Mix.belN_lt (mixN (stepN a)) p.cl.toNat (mixN_lt _) (by omega)
  have n2 := Mix.belN_lt (mixN (stepN (stepN a))) p.po.toNat (mixN_lt _) (by omega)
  unfold flowN
  exact ⟨by show _ ≤ _; dsimp only; omega, by show _ ≤ _; dsimp only; omega⟩
/-- What the next packet is, the state of the numbers behind it, and the connections that are open then. -/
def pktT (p : PlanL) (a : Nat) (ts : List (Nat × Nat)) : List UInt8 × Nat × List (Nat × Nat) :=
  if p.pr = 17 then (packetB p (flowN p a) 0 (bytesT p (stepN (stepN a))), bytesS p (stepN (stepN a)), ts)
  else if ts.length = 0 ∨ belN (mixN (stepN a)) 4 = 0 ∧ ts.length < 256 then (packetB p (flowN p (stepN a)) 2 (bytesT p (stepN (stepN (stepN a)))), bytesS p (stepN (stepN (stepN a))), ts ++ [flowN p (stepN a)])
  else if belN (mixN (stepN a)) 4 = 1 then (packetB p (ts.getD (belN (mixN (stepN (stepN a))) ts.length) (0, 0)) 17 (bytesT p (stepN (stepN a))), bytesS p (stepN (stepN a)), ts.eraseIdx (belN (mixN (stepN (stepN a))) ts.length))
  else (packetB p (ts.getD (belN (mixN (stepN (stepN a))) ts.length) (0, 0)) 16 (bytesT p (stepN (stepN a))), bytesS p (stepN (stepN a)), ts)
end Gen35
end Go.Proofs.Ytfmmmjaficbchaa
/- gen: the next packet: a datagram, or one that opens a connection: the code's. Conditions: a plan that may be. -/
namespace Go.Proofs.Ytfmmmjaficbchaa
open Go.RowKit Go.ChangeShapes Go.WideShapes Go.ChangeAt Go.Deep
namespace Gen35
open Mix (mixN belN mixN_lt)
open Pkt (InEnd tuA tuA_one wrapB dgU sgU dgmK sgmK tuZ alloc_tu size_tu)
/-- Traffic behind a packet. -/
def SrcEnd (s g : Nat) (p : PlanL) (base : Nat) (ov : Value) (r : List UInt8 × Nat × List (Nat × Nat)) (w w' : World) (e : Ending) : Prop :=
  ∃ v ov', e = .returned v ∧ OwnB w' w.heap.size v r.1 ∧ SrcAt w' s g p ov' ∧ GenAt w' g r.2.1 ∧ OwnF w' base p ov' r.2.2 ∧ (ov'.ownBlock = ov.ownBlock ∨ ∃ k, ov'.ownBlock = some k ∧ w.heap.size ≤ k) ∧ KeptS w.heap.size (fun k => k = g ∨ k = s ∨ ov.ownBlock = some k) w w'
theorem flowP_size (p : PlanL) (n q : Nat) : (flowP p n q).size = 9 := rfl
theorem flowP_one (p : PlanL) (n q : Nat) : (flowP p n q).all (·.oneCell') = true := tuA_one _ _ _ _ _ _ _ _ _
theorem lit_news {w : World} {b : Nat} {p : PlanL} {x : Nat × Nat} (h : w.heap[b]? = some (.cells (flowP p x.1 x.2) 32 (0, 0))) (j : Nat) (u : Value) (hu : ([x].flatMap (cellsF p))[j]? = some u) : w.cell? ((⟨b, 0, none⟩ : Addr).add j) = some u := by
  rw [Addr.add_lit, Nat.zero_add, blk_cell h j]
  simpa [cellsF] using hu
theorem keptS_row {S : Nat} {v : Value} {w w' : World} (h : w.grownBy w' v.ownBlock) (hS : S ≤ w.heap.size) : KeptS S (fun k => v.ownBlock = some k) w w' :=
  ⟨h.os, h.tape, h.output, h.size, fun k hk hne => h.block k (by omega) (fun e => hne e.symm)⟩
theorem srcA_open (g : Nat) (p : PlanL) (o o' : Value) : (srcA g p o).setIfInBounds 12 o' = srcA g p o' := rfl
set_option maxRecDepth 20000 in
set_option maxHeartbeats 8000000 in
theorem next_udp (s g a base : Nat) (p : PlanL) (ov : Value) (ts : List (Nat × Nat)) (hR : rightQ p) (hi : p.hi < 18446744073709551616) (lo : p.lo < 18446744073709551616) (hne : g ≠ s) (h17 : p.pr = 17) (hvg : ov.ownBlock ≠ some g) (w : World) (hs : SrcAt w s g p ov) (hg : GenAt w g a) (ho : OwnF w base p ov ts) :
    Calls Try.prog 24 #[.pointer (some ⟨s, 0, none⟩)] w fun e w' => SrcEnd s g p base ov (pktT p a ts) w w' e := by
  have zg : g < w.heap.size := blk_lt hg
  have zs : s < w.heap.size := blk_lt hs
  unfold pktT
  rw [if_pos h17]
  obtain ⟨x, hx⟩ : ∃ x, flowN p a = x := ⟨_, rfl⟩
  obtain ⟨x1, x2⟩ := flowN_le p a hR
  rw [hx] at x1 x2 ⊢
  have hF := fun w hs hg => flow_any s g a p ov hR hne w hs hg
  rw [flowT_eq, hx] at hF
  obtain ⟨a2, ha2⟩ : ∃ b, stepN (stepN a) = b := ⟨_, rfl⟩
  rw [ha2] at hF ⊢
  have hP := fun w hs hg => packet_any s g a2 p ov hR hi lo hne x x1 x2 0 (by omega) w hs hg
  obtain ⟨U, hU⟩ : ∃ U, packetB p x 0 (bytesT p a2) = U := ⟨_, rfl⟩
  obtain ⟨a3, ha3⟩ : ∃ b, bytesS p a2 = b := ⟨_, rfl⟩
  obtain ⟨T, hT⟩ : ∃ T, flowP p x.1 x.2 = T := ⟨_, rfl⟩
  rw [hU, ha3, hT] at hP
  rw [hU, ha3]
  rw [hT] at hF
  have hc7 := (blk_cell hs 7).trans (show (srcA g p ov)[7]? = some (.int .i64 p.pr) from rfl)
  have t1 : (p.pr == 17) = true := by rw [h17]; rfl
  replace hs := hide hs
  replace hg := hide hg
  replace ho := hide ho
  replace hx := hide hx
  replace hF := hide hF
  replace hP := hide hP
  replace hU := hide hU
  replace ha2 := hide ha2
  replace ha3 := hide ha3
  replace hT := hide hT
  replace h17 := hide h17
  go_enter Try.func24, Try.ntmps24
  go_wp2_with fail
  refine (none_src s g p ov _ hs.out).mono ?_
  rintro e w2 ⟨rfl, rfl⟩
  go_wp2_with fail
  clear hc7
  refine (hF.out _ hs.out hg.out).mono ?_
  rintro e w3 ⟨rfl, hg3, g3⟩
  have hs3 := grown_other g3 zs (Ne.symm hne) hs.out
  have ho3 := rowsP.other ho.out g3 hvg
  have z3 := g3.size
  replace hg3 := hide hg3
  replace g3 := hide g3
  replace hs3 := hide hs3
  replace ho3 := hide ho3
  go_wp2_with fail
  refine (hP.out _ hs3.out hg3.out).mono ?_
  rintro e w4 ⟨v4, rfl, hv4, hg4, g4⟩
  have hs4 := grown_other g4 (by omega) (Ne.symm hne) hs3.out
  have ho4 := rowsP.other ho3.out g4 hvg
  have hk4 : KeptS w.heap.size (fun k => k = g ∨ k = s ∨ ov.ownBlock = some k) w w4 := keptS_grown (grown_trans' _ _ _ g3.out g4) (Nat.le_refl _) (.inr (.inl rfl))
  have hv5 := hv4.weaken (base' := w.heap.size) z3
  clear g4 g3 hv4
  replace hg4 := hide hg4
  replace hs4 := hide hs4
  replace ho4 := hide ho4
  replace hk4 := hide hk4
  replace hv5 := hide hv5
  go_wp2_with fail
  go_ret
  exact ⟨_, _, rfl, hv5.out, hs4.out, hg4.out, ho4.out, .inl rfl, hk4.out⟩
set_option maxRecDepth 20000 in
set_option maxHeartbeats 8000000 in
theorem next_new (s g a base : Nat) (p : PlanL) (ov : Value) (ts : List (Nat × Nat)) (hR : rightQ p) (hi : p.hi < 18446744073709551616) (lo : p.lo < 18446744073709551616) (hne : g ≠ s) (h6 : p.pr = 6) (hvg : ov.ownBlock ≠ some g) (hvs : ov.ownBlock ≠ some s) (hl : ts.length ≤ 256) (hnew : ts.length = 0 ∨ belN (mixN (stepN a)) 4 = 0 ∧ ts.length < 256) (w : World) (hs : SrcAt w s g p ov) (hg : GenAt w g a) (ho : OwnF w base p ov ts) (hbase : base ≤ w.heap.size) :
    Calls Try.prog 24 #[.pointer (some ⟨s, 0, none⟩)] w fun e w' => SrcEnd s g p base ov (pktT p a ts) w w' e := by
  have zg : g < w.heap.size := blk_lt hg
  have zs : s < w.heap.size := blk_lt hs
  unfold pktT
  rw [if_neg (by omega), if_pos hnew]
  obtain ⟨a1, ha1⟩ : ∃ b, stepN a = b := ⟨_, rfl⟩
  have hNx := fun w hg => next_any g a w hg
  rw [ha1] at hNx hnew ⊢
  have m1 := mixN_lt a1
  have hBe := fun w => Mix.below_any (mixN a1) 4 m1 (by omega) w
  obtain ⟨k0, hk0⟩ : ∃ k, belN (mixN a1) 4 = k := ⟨_, rfl⟩
  rw [show (4 : Int).toNat = 4 from rfl, hk0] at hBe
  rw [hk0] at hnew
  obtain ⟨m, hm⟩ : ∃ m, mixN a1 = m := ⟨_, rfl⟩
  rw [hm] at hNx hBe
  obtain ⟨x, hx⟩ : ∃ x, flowN p a1 = x := ⟨_, rfl⟩
  obtain ⟨x1, x2⟩ := flowN_le p a1 hR
  rw [hx] at x1 x2 ⊢
  have hF := fun w hs hg => flow_any s g a1 p ov hR hne w hs hg
  rw [flowT_eq, hx] at hF
  obtain ⟨a2, ha2⟩ : ∃ b, stepN (stepN a1) = b := ⟨_, rfl⟩
  rw [ha2] at hF ⊢
  have hP := fun ov w hs hg => packet_any s g a2 p ov hR hi lo hne x x1 x2 2 (by omega) w hs hg
  obtain ⟨U, hU⟩ : ∃ U, packetB p x 2 (bytesT p a2) = U := ⟨_, rfl⟩
  obtain ⟨a3, ha3⟩ : ∃ b, bytesS p a2 = b := ⟨_, rfl⟩
  rw [hU, ha3] at hP
  rw [hU, ha3]
  have hc7 := (blk_cell hs 7).trans (show (srcA g p ov)[7]? = some (.int .i64 p.pr) from rfl)
  have t1 : (p.pr == 17) = false := by rw [h6]; rfl
  obtain ⟨A, cap, hov⟩ := ho.val
  have hT9 : (flowP p x.1 x.2).size = 9 := rfl
  have hT1 := flowP_one p x.1 x.2
  clear hk0
  replace hs := hide hs
  replace hg := hide hg
  replace ho := hide ho
  replace hx := hide hx
  replace hF := hide hF
  replace hP := hide hP
  replace hU := hide hU
  replace ha2 := hide ha2
  replace ha3 := hide ha3
  replace h6 := hide h6
  replace hNx := hide hNx
  replace hBe := hide hBe
  replace ha1 := hide ha1
  replace hm := hide hm
  replace hov := hide hov
  replace hvg := hide hvg
  replace hvs := hide hvs
  go_enter Try.func24, Try.ntmps24
  go_wp2_with fail
  refine (none_src s g p ov _ hs.out).mono ?_
  rintro e w2 ⟨rfl, rfl⟩
  go_upto_region 5 with fail
  clear hc7
  have hc0 := (blk_cell hs.out 0).trans (show (srcA g p ov)[0]? = some (.pointer (some ⟨g, 0, none⟩)) from rfl)
  go_wp2_with fail
  refine (hNx.out _ hg.out).mono ?_
  rintro e w3 ⟨rfl, hg3, g3⟩
  clear hc0
  have hs3 := grown_other g3 zs (Ne.symm hne) hs.out
  have ho3 := rowsP.other ho.out g3 hvg.out
  have z3 := g3.size
  have hk3 : KeptS w.heap.size (fun k => k = g ∨ k = s ∨ ov.ownBlock = some k) w w3 := keptS_grown g3 (Nat.le_refl _) (.inr (.inl rfl))
  clear g3
  replace hg3 := hide hg3
  replace hs3 := hide hs3
  replace ho3 := hide ho3
  replace hk3 := hide hk3
  go_wp2_with fail
  refine (hBe.out _).mono ?_
  rintro e w4 ⟨rfl, rfl⟩
  have hc12 := (blk_cell hs3.out 12).trans (show (srcA g p ov)[12]? = some ov from rfl)
  rw [hov.out] at hc12
  go_upto_region 6 with fail
  go_cut [43] (fun bv wx => bv = .bool true ∧ w3 = wx)
  case first =>
    by_cases hz : ts.length = 0
    · have t2 : ((ts.length : Int) == 0) = true := by rw [hz]; rfl
      go_wp2_with fail
      go_meet
      exact ⟨rfl, rfl⟩
    · have t2 : ((ts.length : Int) == 0) = false := by rw [beq_eq_false_iff_ne]; omega
      obtain ⟨e0, e1⟩ : k0 = 0 ∧ ts.length < 256 := by omega
      have t3 : ((k0 : Int) == 0) = true := by rw [e0]; rfl
      have t4 : (ts.length : Int) < 256 := by omega
      clear e0
      go_wp2_with fail
      go_meet
      exact ⟨rfl, rfl⟩
  case rest =>
  obtain ⟨rfl, rfl⟩ := hcut
  clear hc12
  go_upto_region 7 with fail
  apply wp_region_lit
  iterate 1 (refine wpList_plain rfl fun K hK => ?_; go_simp; refine hK _ _ ?_; clear hK K)
  refine wpList_plain rfl fun K hK => ?_
  go_simp
  refine (hF.out _ hs3.out hg3.out).mono ?_
  rintro e w5 ⟨rfl, hg5, g5⟩
  go_simp
  refine hK _ _ ?_
  clear hK K
  have hs5 := grown_other g5 (by omega) (Ne.symm hne) hs3.out
  have ho5 := rowsP.other ho3.out g5 hvg.out
  have z5 := g5.size
  have hk5 := keptS_trans _ _ _ _ _ hk3.out (keptS_grown (P := fun k => k = g ∨ k = s ∨ ov.ownBlock = some k) g5 z3 (.inr (.inl rfl)))
  clear g5 hg3 hs3 ho3 hk3
  replace hg5 := hide hg5
  replace hs5 := hide hs5
  replace ho5 := hide ho5
  replace hk5 := hide hk5
  refine wpl_new rfl rfl 32 _ (alloc_tu _ rfl) 4 rfl (.tmp 45) rfl _ (fun _ => rfl) (fun _ => rfl) (by rfl) (by rw [size_tu, hT9]) hT1 ?_
  intro w6 ht6 hb6 hz6
  refine wpList_nil ?_
  have hs6 := blk_on hb6 hs5.out
  have hg6 := blk_on hb6 hg5.out
  have ho6 := rowsP.below ho5.out hb6
  have ho5' := ho5.out
  have hk6 := keptS_trans _ _ _ _ _ hk5.out (keptS_of_below (P := fun k => k = g ∨ k = s ∨ ov.ownBlock = some k) hb6 (by omega))
  clear hb6 hg5 hs5 ho5 hk5
  replace hg6 := hide hg6
  replace hs6 := hide hs6
  replace ho6 := hide ho6
  replace hk6 := hide hk6
  replace ht6 := hide ht6
  go_upto_region 8 with fail
  refine wp_region_Y [10] (KeptS w6.heap.size (fun k => ov.ownBlock = some k)) (by as_aux_lemma => kernel_rfl) ?_
  intro wd hbd
  have hsd := blk_on hbd hs6.out
  have hgd := blk_on hbd hg6.out
  have htd := blk_on hbd ht6.out
  have hod := rowsP.below ho6.out hbd
  have hkd := keptS_trans _ _ _ _ _ hk6.out (keptS_of_below (P := fun k => k = g ∨ k = s ∨ ov.ownBlock = some k) hbd (by omega))
  have zd := hbd.size
  have hvt : ov.ownBlock ≠ some w5.heap.size := fun e => by
    have := (rowsP.lt ho5' _ e).2
    omega
  have hc12 := fun l : RelW (KeptS w6.heap.size (fun k => ov.ownBlock = some k)) wd => (blk_cell ((l.hk.block s (by omega) (by have := hvs.out; exact this)).trans hsd) 12).trans (show (srcA g p ov)[12]? = some ov from rfl)
  have hcT := fun (l : RelW (KeptS w6.heap.size (fun k => ov.ownBlock = some k)) wd) (o : Nat) => blk_cell ((l.hk.block w5.heap.size hz6 hvt).trans htd) o
  unfold flowP tuA at hcT
  refine wpY_seg [10] (KeptS w6.heap.size (fun k => ov.ownBlock = some k)) 0 6 (fuel := 5) (by as_aux_lemma => kernel_rfl) (fun d _ _ _ _ h => by cases d <;> exact h) (by as_aux_lemma => kernel_rfl) (by as_aux_lemma => kernel_rfl) (by as_aux_lemma => kernel_rfl) ?_
  simp only [List.drop_zero, List.take_succ_cons, List.take_zero]
  iterate 6 (refine wpQX_step (fun K hK => ?_); go_simp; refine hK _ ?_; clear hK K)
  refine wpQF_nil ?_
  clear hc12 hcT
  refine wpW_step 6 rfl (by as_aux_lemma => kernel_rfl) (fun K hK => ?_)
  go_simp
  refine hK _ _ (relY_of (keptS_of_below ((Below.refl _ _).alloc (Nat.le_refl _) _) zd)) ?_
  clear hK K
  obtain ⟨w8, hw8⟩ : ∃ w8, wd.alloc (.cells (flowP p x.1 x.2) 32) = w8 := ⟨_, rfl⟩
  have hb8 : Below wd.heap.size wd w8 := hw8 ▸ (Below.refl _ _).alloc (Nat.le_refl _) _
  have hn8 : w8.heap[wd.heap.size]? = some (.cells (flowP p x.1 x.2) 32 (0, 0)) := hw8 ▸ blk_new _ _ _
  change wpW _ _ _ _ _ _ _ _ (wd.alloc (.cells (flowP p x.1 x.2) 32))
  rw [hw8]
  have hs8 := blk_on hb8 hsd
  have hg8 := blk_on hb8 hgd
  have ht8 := blk_on hb8 htd
  have ho8 := rowsP.below hod hb8
  have hk8 := keptS_trans _ _ _ _ _ hkd (keptS_of_below (P := fun k => k = g ∨ k = s ∨ ov.ownBlock = some k) hb8 (by omega))
  have z8 := hb8.size
  clear hw8 hb8 hsd hgd htd hod hkd
  refine wpW_step 7 rfl (by as_aux_lemma => kernel_rfl) (fun K hK => ?_)
  rw [if_pos (by unfold Region.wanted; rfl)]
  refine wp_app_f (.tmp 50) (.tmp 52) rfl base p ov ts [x] rfl ho8 ⟨wd.heap.size, 0, none⟩ 1 1 rfl rfl (lit_news hn8) (by rw [List.length_singleton]; omega) (by omega) fun v9 w9 h1 h2 h3 => hK _ _ (relY_of (keptS_row h2 (by omega))) ?_
  clear hK K hn8
  have hs9 := (h2.block s (blk_lt hs8) (fun e => hvs.out e.symm)).trans hs8
  have hg9 := (h2.block g (blk_lt hg8) (fun e => hvg.out e.symm)).trans hg8
  have ht9 := (h2.block w5.heap.size (blk_lt ht8) (fun e => hvt e.symm)).trans ht8
  have hk9 := keptS_trans _ _ _ _ _ hk8 (keptS_mono (P' := fun k => k = g ∨ k = s ∨ ov.ownBlock = some k) (keptS_row h2 (Nat.le_refl _)) (by omega) (fun k _ h => .inr (.inr h)))
  have z9 := h2.size
  have hm9 : v9.ownBlock = ov.ownBlock ∨ ∃ k, v9.ownBlock = some k ∧ w6.heap.size ≤ k := h3.imp id fun ⟨k, e, hk⟩ => ⟨k, e, by omega⟩
  obtain ⟨A9, c9, hv9⟩ := OwnF.val h1
  rw [List.length_append, List.length_singleton] at hv9
  subst hv9
  clear h2 h3 hs8 hg8 ht8 ho8 hk8
  replace hs9 := hide hs9
  replace hg9 := hide hg9
  replace ht9 := hide ht9
  replace hk9 := hide hk9
  replace h1 := hide h1
  replace hm9 := hide hm9
  refine wpW_step 8 rfl (by as_aux_lemma => kernel_rfl) (fun K hK => ?_)
  go_simp
  refine hK _ _ (relY_of (IsRel.refl _)) ?_
  clear hK K
  refine wpW_step 9 rfl (by as_aux_lemma => kernel_rfl) (fun K hK => ?_)
  go_simp
  refine hK _ _ (relY_of (IsRel.refl _)) ?_
  clear hK K
  have hc := (blk_cell hs9.out 12).trans (show (srcA g p ov)[12]? = some ov from rfl)
  have hf := blk_free hs9.out 12
  obtain ⟨w10, e10, hs10, g10⟩ := store_cell hs9.out 12 (.slice A9 (ts.length + 1) c9)
  rw [srcA_open] at hs10
  have hg10 := grown_other g10 (blk_lt hg9.out) hne hg9.out
  have ht10 := grown_other g10 (blk_lt ht9.out) (show w5.heap.size ≠ s by omega) ht9.out
  have ho10 := rowsP.other h1.out g10 (fun e => by
    rcases hm9.out with h | ⟨k, h, hk⟩
    · exact hvs.out (h.symm.trans e)
    · rw [h] at e; cases e; omega)
  have hk10 := keptS_trans _ _ _ _ _ hk9.out (keptS_grown (P := fun k => k = g ∨ k = s ∨ ov.ownBlock = some k) g10 (by omega) (.inr (.inr (.inl rfl))))
  have hm10 : (Value.slice A9 (ts.length + 1) c9).ownBlock = ov.ownBlock ∨ ∃ k, (Value.slice A9 (ts.length + 1) c9).ownBlock = some k ∧ w.heap.size ≤ k := hm9.out.imp id fun ⟨k, e, hk⟩ => ⟨k, e, by omega⟩
  have z10 := g10.size
  clear g10 hs9 hg9 ht9 hk9 h1 hm9
  replace hs10 := hide hs10
  replace hg10 := hide hg10
  replace ht10 := hide ht10
  replace ho10 := hide ho10
  replace hk10 := hide hk10
  replace hm10 := hide hm10
  refine wpW_step 10 rfl (by as_aux_lemma => kernel_rfl) (fun K hK => ?_)
  go_simp
  refine hK _ _ (relY_wr (by as_aux_lemma => kernel_rfl)) ?_
  clear hK K hc hf e10
  refine wpW_done (by as_aux_lemma => kernel_rfl) ?_ _
  have hcT := blk_cell ht10.out
  unfold flowP tuA at hcT
  go_upto_region 9 with fail
  go_wp2_with fail
  clear hcT
  refine (hP.out _ _ hs10.out hg10.out).mono ?_
  rintro e w11 ⟨v11, rfl, hv11, hg11, g11⟩
  have hs11 := grown_other g11 (blk_lt hs10.out) (Ne.symm hne) hs10.out
  have ho11 := rowsP.other ho10.out g11 (fun e => by
    rcases hm10.out with h | ⟨k, h, hk⟩
    · exact hvg.out (h.symm.trans e)
    · rw [h] at e; cases e; omega)
  have hk11 := keptS_trans _ _ _ _ _ hk10.out (keptS_grown (P := fun k => k = g ∨ k = s ∨ ov.ownBlock = some k) g11 (by omega) (.inr (.inl rfl)))
  have hv12 := hv11.weaken (base' := w.heap.size) (by omega)
  clear g11 hv11 hs10 hg10 ht10 ho10 hk10
  replace hg11 := hide hg11
  replace hs11 := hide hs11
  replace ho11 := hide ho11
  replace hk11 := hide hk11
  replace hv12 := hide hv12
  go_wp2_with fail
  go_ret
  exact ⟨_, _, rfl, hv12.out, hs11.out, hg11.out, ho11.out, hm10.out, hk11.out⟩
end Gen35
end Go.Proofs.Ytfmmmjaficbchaa
/- gen: the next packet: one that goes on with a connection, or ends it: the code's. Conditions: a plan that may be. -/
namespace Go.Proofs.Ytfmmmjaficbchaa
open Go.RowKit Go.ChangeShapes Go.WideShapes Go.ChangeAt Go.Deep
namespace Gen35
open Mix (mixN belN mixN_lt)
open Pkt (InEnd tuA tuA_one wrapB dgU sgU dgmK sgmK tuZ alloc_tu size_tu)
theorem drop_news {w : World} {g k : Nat} {p : PlanL} {ts : List (Nat × Nat)} (h : ∀ j u, (ts.flatMap (cellsF p))[j]? = some u → w.cell? ⟨g, j, none⟩ = some u) (j : Nat) (u : Value) (hu : ((ts.drop k).flatMap (cellsF p))[j]? = some u) : w.cell? ((⟨g, k * 9, none⟩ : Addr).add j) = some u := by
  rw [Addr.add_lit]
  refine h _ _ ?_
  rw [← flat_drop, List.getElem?_drop] at hu
  exact hu
theorem drop_news' {w : World} {g k cap : Nat} {p : PlanL} {ts : List (Nat × Nat)} (h : ∀ j u, (ts.flatMap (cellsF p))[j]? = some u → w.cell? ⟨g, j, none⟩ = some u) (h1 : k ≤ ts.length) (h2 : ts.length ≤ cap) {oo : Nat} (hoo : cap ≠ k → oo = k * 9) (j : Nat) (u : Value) (hu : ((ts.drop k).flatMap (cellsF p))[j]? = some u) : w.cell? ((⟨g, oo, none⟩ : Addr).add j) = some u := by
  by_cases hk : cap = k
  · rw [List.drop_of_length_le (by omega)] at hu
    simp at hu
  · rw [hoo hk]
    exact drop_news h j u hu
theorem erase_eq (ts : List (Nat × Nat)) (k : Nat) : ts.take k ++ ts.drop (k + 1) = ts.eraseIdx k := (List.eraseIdx_eq_take_drop_succ ts k).symm
set_option maxRecDepth 20000 in
set_option maxHeartbeats 8000000 in
theorem next_go (s g a base : Nat) (p : PlanL) (ov : Value) (ts : List (Nat × Nat)) (hR : rightQ p) (hi : p.hi < 18446744073709551616) (lo : p.lo < 18446744073709551616) (hne : g ≠ s) (h6 : p.pr = 6) (hvg : ov.ownBlock ≠ some g) (hvs : ov.ownBlock ≠ some s) (hl : ts.length ≤ 256) (hts : ∀ x ∈ ts, x.1 ≤ 65535 ∧ x.2 ≤ 65535) (hnew : ¬ (ts.length = 0 ∨ belN (mixN (stepN a)) 4 = 0 ∧ ts.length < 256)) (w : World) (hs : SrcAt w s g p ov) (hg : GenAt w g a) (ho : OwnF w base p ov ts) (hbase : base ≤ w.heap.size) :
    Calls Try.prog 24 #[.pointer (some ⟨s, 0, none⟩)] w fun e w' => SrcEnd s g p base ov (pktT p a ts) w w' e := by
  have zg : g < w.heap.size := blk_lt hg
  have zs : s < w.heap.size := blk_lt hs
  unfold pktT
  rw [if_neg (by omega), if_neg hnew]
  obtain ⟨a1, ha1⟩ : ∃ b, stepN a = b := ⟨_, rfl⟩
  have hNx := fun w hg => next_any g a w hg
  rw [ha1] at hNx hnew ⊢
  have m1 := mixN_lt a1
  have hBe := fun w => Mix.below_any (mixN a1) 4 m1 (by omega) w
  obtain ⟨k0, hk0⟩ : ∃ k, belN (mixN a1) 4 = k := ⟨_, rfl⟩
  rw [show (4 : Int).toNat = 4 from rfl, hk0] at hBe
  rw [hk0] at hnew ⊢
  obtain ⟨m, hm⟩ : ∃ m, mixN a1 = m := ⟨_, rfl⟩
  rw [hm] at hNx hBe
  obtain ⟨a2, ha2⟩ : ∃ b, stepN a1 = b := ⟨_, rfl⟩
  have hNx2 := fun w hg => next_any g a1 w hg
  rw [ha2] at hNx2 ⊢
  have m2 := mixN_lt a2
  have hBe2 := fun w => Mix.below_any (mixN a2) (ts.length : Int) m2 (by omega) w
  rw [Int.toNat_natCast] at hBe2
  have n2 := Mix.belN_lt (mixN a2) ts.length m2 (by omega)
  obtain ⟨k, hk⟩ : ∃ k, belN (mixN a2) ts.length = k := ⟨_, rfl⟩
  rw [hk] at hBe2 n2 ⊢
  obtain ⟨m2', hm2⟩ : ∃ m, mixN a2 = m := ⟨_, rfl⟩
  rw [hm2] at hNx2 hBe2
  obtain ⟨x, hx⟩ : ∃ x, ts[k]? = some x := ⟨ts[k], List.getElem?_eq_getElem n2⟩
  have hxg : ts.getD k (0, 0) = x := by rw [List.getD_eq_getElem?_getD, hx]; rfl
  rw [hxg]
  obtain ⟨x1, x2⟩ := hts x (List.mem_of_getElem? hx)
  have hP := fun fl hf ov w hs hg => packet_any s g a2 p ov hR hi lo hne x x1 x2 fl hf w hs hg
  obtain ⟨a3, ha3⟩ : ∃ b, bytesS p a2 = b := ⟨_, rfl⟩
  obtain ⟨bs, hbs⟩ : ∃ b, bytesT p a2 = b := ⟨_, rfl⟩
  rw [ha3, hbs] at hP
  rw [ha3, hbs]
  obtain ⟨r, hr⟩ : ∃ r, (if k0 = 1 then (packetB p x 17 bs, a3, ts.eraseIdx k) else (packetB p x 16 bs, a3, ts)) = r := ⟨_, rfl⟩
  rw [hr]
  have hc7 := (blk_cell hs 7).trans (show (srcA g p ov)[7]? = some (.int .i64 p.pr) from rfl)
  have t1 : (p.pr == 17) = false := by rw [h6]; rfl
  obtain ⟨A, cap, hov⟩ := ho.val
  have hT9 : (flowP p x.1 x.2).size = 9 := rfl
  have hT1 := flowP_one p x.1 x.2
  have hz0 : ts.length ≠ 0 := by omega
  clear hk0 hts
  replace hs := hide hs
  replace hg := hide hg
  replace ho := hide ho
  replace hx := hide hx
  replace hP := hide hP
  replace ha2 := hide ha2
  replace ha3 := hide ha3
  replace h6 := hide h6
  replace hNx := hide hNx
  replace hBe := hide hBe
  replace hNx2 := hide hNx2
  replace hBe2 := hide hBe2
  replace hm2 := hide hm2
  replace hk := hide hk
  replace ha1 := hide ha1
  replace hm := hide hm
  replace hov := hide hov
  replace hvg := hide hvg
  replace hvs := hide hvs
  replace hbs := hide hbs
  replace hr := hide hr
  go_enter Try.func24, Try.ntmps24
  go_wp2_with fail
  refine (none_src s g p ov _ hs.out).mono ?_
  rintro e w2 ⟨rfl, rfl⟩
  go_upto_region 5 with fail
  clear hc7
  have hc0 := (blk_cell hs.out 0).trans (show (srcA g p ov)[0]? = some (.pointer (some ⟨g, 0, none⟩)) from rfl)
  go_wp2_with fail
  refine (hNx.out _ hg.out).mono ?_
  rintro e w3 ⟨rfl, hg3, g3⟩
  clear hc0
  have hs3 := grown_other g3 zs (Ne.symm hne) hs.out
  have ho3 := rowsP.other ho.out g3 hvg.out
  have z3 := g3.size
  have hk3 : KeptS w.heap.size (fun k => k = g ∨ k = s ∨ ov.ownBlock = some k) w w3 := keptS_grown g3 (Nat.le_refl _) (.inr (.inl rfl))
  clear g3
  replace hg3 := hide hg3
  replace hs3 := hide hs3
  replace ho3 := hide ho3
  replace hk3 := hide hk3
  go_wp2_with fail
  refine (hBe.out _).mono ?_
  rintro e w4 ⟨rfl, rfl⟩
  have hc12 := (blk_cell hs3.out 12).trans (show (srcA g p ov)[12]? = some ov from rfl)
  rw [hov.out] at hc12
  go_upto_region 6 with fail
  go_cut [43] (fun bv wx => bv = .bool false ∧ w3 = wx)
  case first =>
    have t2 : ((ts.length : Int) == 0) = false := by rw [beq_eq_false_iff_ne]; omega
    by_cases e0 : k0 = 0
    · have t3 : ((k0 : Int) == 0) = true := by rw [e0]; rfl
      have t4 : ¬ (ts.length : Int) < 256 := by omega
      clear e0
      go_wp2_with fail
      go_meet
      exact ⟨by first | rfl | (congr 1; exact decide_eq_false t4), rfl⟩
    · have t3 : ((k0 : Int) == 0) = false := by rw [beq_eq_false_iff_ne]; omega
      clear e0
      go_wp2_with fail
      go_meet
      exact ⟨rfl, rfl⟩
  case rest =>
  obtain ⟨rfl, rfl⟩ := hcut
  clear hc12
  go_upto_region 10 with fail
  refine wp_region_X (KeptS w3.heap.size (fun k => k = g)) (by as_aux_lemma => kernel_rfl) ?_
  intro wd hbd
  have hsd := blk_on hbd hs3.out
  have hgd := blk_on hbd hg3.out
  have hod := rowsP.below ho3.out hbd
  have zd := hbd.size
  have hcL := fun (l : RelW (KeptS w3.heap.size (fun k => k = g)) wd) (o : Nat) => blk_cell ((l.hk.block s (by omega) (fun h => hne h.symm)).trans hsd) o
  have hc0 := fun l => (hcL l 0).trans (show (srcA g p ov)[0]? = some (.pointer (some ⟨g, 0, none⟩)) from rfl)
  have hc12 := fun l => (hcL l 12).trans (show (srcA g p ov)[12]? = some ov from rfl)
  clear hcL
  rw [hov.out] at hc12
  refine wpX_seg (KeptS w3.heap.size (fun k => k = g)) 0 4 (fuel := 8) (by as_aux_lemma => kernel_rfl) (fun d _ _ _ _ h => by cases d <;> exact h) (by as_aux_lemma => kernel_rfl) (by as_aux_lemma => kernel_rfl) ?_
  simp only [List.drop_zero, List.take_succ_cons, List.take_zero]
  iterate 4 (refine wpQX_step (fun K hK => ?_); go_simp; refine hK _ ?_; clear hK K)
  refine wpQF_nil ?_
  refine wpX_seg (KeptS w3.heap.size (fun k => k = g)) 5 5 (fuel := 3) (by as_aux_lemma => kernel_rfl) (fun d _ _ _ _ h => by cases d <;> exact h) (by as_aux_lemma => kernel_rfl) (by as_aux_lemma => kernel_rfl) ?_
  simp only [List.drop_succ_cons, List.drop_zero, List.take_succ_cons, List.take_zero]
  iterate 5 (refine wpQX_step (fun K hK => ?_); go_simp; refine hK _ ?_; clear hK K)
  refine wpQF_nil ?_
  clear hc0 hc12
  refine wpF_step 4 rfl (by as_aux_lemma => kernel_rfl) (fun K hK => ?_)
  go_simp
  go_at_call 30
  refine (hNx2.out _ hgd).mono ?_
  rintro e w5 ⟨rfl, hg5, g5⟩
  refine hK _ _ (Pkt.keptS_grown1 g5 zd rfl) ?_
  clear hK K
  have hs5 := grown_other g5 (blk_lt hsd) (Ne.symm hne) hsd
  have ho5 := rowsP.other hod g5 hvg.out
  have hk5 := keptS_trans _ _ _ _ _ (keptS_trans _ _ _ _ _ hk3.out (keptS_of_below (P := fun k => k = g ∨ k = s ∨ ov.ownBlock = some k) hbd (by omega))) (keptS_grown (P := fun k => k = g ∨ k = s ∨ ov.ownBlock = some k) g5 (by omega) (.inr (.inl rfl)))
  have z5 : w3.heap.size ≤ w5.heap.size := Nat.le_trans zd g5.size
  clear g5 hsd hgd hod hbd zd hg3 hs3 ho3 hk3
  replace hg5 := hide hg5
  replace hs5 := hide hs5
  replace ho5 := hide ho5
  replace hk5 := hide hk5
  refine wpF_step 10 rfl (by as_aux_lemma => kernel_rfl) (fun K hK => ?_)
  go_simp
  go_at_call 49
  refine (hBe2.out _).mono ?_
  rintro e w4 ⟨rfl, rfl⟩
  refine hK _ _ (IsRel.refl _) ?_
  clear hK K
  refine wpF_step 11 rfl (by as_aux_lemma => kernel_rfl) (fun K hK => ?_)
  go_simp
  refine hK _ _ (IsRel.refl _) ?_
  clear hK K
  refine wpF_done (by as_aux_lemma => kernel_rfl) ?_ 0
  obtain ⟨gb, cb, hvb, hgb1, hgb2, hcb1, hcb2, hrng⟩ := OwnF.row ho5.out hx.out
  obtain rfl : A = some ⟨gb, 0, none⟩ := by have := hov.out.symm.trans hvb; cases this; rfl
  obtain rfl : cap = cb := by have := hov.out.symm.trans hvb; cases this; rfl
  have hc12 := (blk_cell hs5.out 12).trans (show (srcA g p ov)[12]? = some ov from rfl)
  rw [hov.out] at hc12
  have q1 : (k : Int) < (ts.length : Int) := by omega
  have q2 : (0 : Int) ≤ (k : Int) := by omega
  replace hvb := hide hvb
  replace hrng := hide hrng
  go_upto_region 11 with fail
  apply wp_region_lit
  iterate 6 (refine wpList_plain rfl fun K hK => ?_; go_simp; refine hK _ _ ?_; clear hK K)
  refine wpList_load_mid rfl 32 (.tmp 75) rfl gb (k * 9) rfl (cellsF p x) _ hrng.out Try.underlying32 rfl (by kernel_rfl) ?_
  rw [show (cellsF p x).toArray = flowP p x.1 x.2 from rfl]
  dsimp only [Act.put]
  refine wpl_new rfl rfl 32 _ (alloc_tu _ rfl) 6 rfl (.tmp 76) rfl _ (fun _ => rfl) (fun _ => rfl) (by rfl) (by rw [size_tu, hT9]) hT1 ?_
  intro w6 ht6 hb6 hz6
  refine wpList_nil ?_
  have ho5' := ho5.out
  have hs6 := blk_on hb6 hs5.out
  have hg6 := blk_on hb6 hg5.out
  have ho6 := rowsP.below ho5.out hb6
  have hk6 := keptS_trans _ _ _ _ _ hk5.out (keptS_of_below (P := fun k => k = g ∨ k = s ∨ ov.ownBlock = some k) hb6 (by omega))
  clear hb6 hg5 hs5 ho5 hk5 hc12 hrng
  have hob : ov.ownBlock = some gb := by rw [hvb.out]; rfl
  have hvt : gb ≠ w5.heap.size := by omega
  have hgbs : gb ≠ s := fun e => hvs.out (by rw [hob, e])
  have hgbg : gb ≠ g := fun e => hvg.out (by rw [hob, e])
  replace hg6 := hide hg6
  replace hs6 := hide hs6
  replace ho6 := hide ho6
  replace hk6 := hide hk6
  replace ht6 := hide ht6
  replace hob := hide hob
  by_cases e1 : k0 = 1
  case neg =>
    have t3 : ((k0 : Int) == 1) = false := by rw [beq_eq_false_iff_ne]; omega
    obtain ⟨U, hU⟩ : ∃ U, packetB p x 16 bs = U := ⟨_, rfl⟩
    have hP6 := hP.out 16 (by omega)
    rw [hU] at hP6
    obtain rfl : (U, a3, ts) = r := by rw [← hr.out, if_neg e1, hU]
    have hcT := blk_cell ht6.out
    unfold flowP tuA at hcT
    clear e1 hr
    replace hU := hide hU
    replace hP6 := hide hP6
    go_upto_region 15 with fail
    go_wp2_with fail
    clear hcT
    refine (hP6.out _ _ hs6.out hg6.out).mono ?_
    rintro e w11 ⟨v11, rfl, hv11, hg11, g11⟩
    have hs11 := grown_other g11 (blk_lt hs6.out) (Ne.symm hne) hs6.out
    have ho11 := rowsP.other ho6.out g11 hvg.out
    have hk11 := keptS_trans _ _ _ _ _ hk6.out (keptS_grown (P := fun k => k = g ∨ k = s ∨ ov.ownBlock = some k) g11 (by omega) (.inr (.inl rfl)))
    have hv12 := hv11.weaken (base' := w.heap.size) (by omega)
    clear g11 hv11 hs6 hg6 ht6 ho6 hk6
    replace hg11 := hide hg11
    replace hs11 := hide hs11
    replace ho11 := hide ho11
    replace hk11 := hide hk11
    replace hv12 := hide hv12
    go_wp2_with fail
    go_ret
    exact ⟨_, _, rfl, hv12.out, hs11.out, hg11.out, ho11.out, .inl rfl, hk11.out⟩
  have t3 : ((k0 : Int) == 1) = true := by rw [e1]; rfl
  obtain ⟨U, hU⟩ : ∃ U, packetB p x 17 bs = U := ⟨_, rfl⟩
  have hP6 := hP.out 17 (by omega)
  rw [hU] at hP6
  obtain rfl : (U, a3, ts.eraseIdx k) = r := by rw [← hr.out, if_pos e1, hU]
  clear e1 hr
  have q3 : IntKind.i64.wrap ((k : Int) + 1) = ((k + 1 : Nat) : Int) := by rw [wraps62 _ (by omega) (by omega)]; omega
  obtain ⟨k1, hk1⟩ : ∃ k1, k + 1 = k1 := ⟨_, rfl⟩
  rw [hk1] at q3
  have q4 : (k1 : Int) ≤ (ts.length : Int) := by omega
  have q5 : (ts.length : Int) ≤ (cap : Int) := by omega
  have q6 : (k : Int) ≤ (cap : Int) := by omega
  have q7 : (0 : Int) ≤ (k1 : Int) := by omega
  replace hU := hide hU
  replace hP6 := hide hP6
  replace hk1 := hide hk1
  go_upto_region 13 with fail
  refine wp_region_Y [18] (KeptS w6.heap.size (fun k => ov.ownBlock = some k)) (by as_aux_lemma => kernel_rfl) ?_
  intro wd hbd
  have hsd := blk_on hbd hs6.out
  have hgd := blk_on hbd hg6.out
  have htd := blk_on hbd ht6.out
  have hod := rowsP.below ho6.out hbd
  have hkd := keptS_trans _ _ _ _ _ hk6.out (keptS_of_below (P := fun k => k = g ∨ k = s ∨ ov.ownBlock = some k) hbd (by omega))
  have zd := hbd.size
  have hc12 := fun l : RelW (KeptS w6.heap.size (fun k => ov.ownBlock = some k)) wd => (blk_cell ((l.hk.block s (by omega) (by have := hvs.out; exact this)).trans hsd) 12).trans (show (srcA g p ov)[12]? = some (.slice (some ⟨gb, 0, none⟩) ts.length cap) from congrArg some hvb.out)
  refine wpY_seg [18] (KeptS w6.heap.size (fun k => ov.ownBlock = some k)) 0 15 (fuel := 4) (by as_aux_lemma => kernel_rfl) (fun d _ _ _ _ h => by cases d <;> exact h) (by as_aux_lemma => kernel_rfl) (by as_aux_lemma => kernel_rfl) (by as_aux_lemma => kernel_rfl) ?_
  simp only [List.drop_zero, List.take_succ_cons, List.take_zero]
  iterate 15 (refine wpQX_step (fun K hK => ?_); go_simp; refine hK _ ?_; clear hK K)
  refine wpQF_nil ?_
  clear hc12
  generalize hPP : (if cap = k1 then some (⟨gb, 0, none⟩ : Addr) else some ⟨gb, k1 * 9, none⟩) = PP
  obtain ⟨oo, rfl, hoo⟩ : ∃ oo, PP = some ⟨gb, oo, none⟩ ∧ (cap ≠ k1 → oo = k1 * 9) := by
    rw [← hPP]
    split
    · exact ⟨0, rfl, fun h => absurd (by assumption) h⟩
    · exact ⟨_, rfl, fun _ => rfl⟩
  clear hPP
  have hcut86 := rowsP.cut (k := k) (by have := hod; rw [hvb.out] at this; exact this) (by omega)
  rw [flat_take] at hcut86
  have hcut : OwnF wd base p (.slice (some ⟨gb, 0, none⟩) k k) (ts.take k) := by
    unfold OwnF
    rw [List.length_take, Nat.min_eq_left (by omega)]
    exact hcut86
  obtain ⟨gb', cap', he, _, _, _, _, hcl⟩ := rowsP.form hod (by omega)
  obtain rfl : gb = gb' := by have := hvb.out.symm.trans he; cases this; rfl
  clear he hcut86
  refine wpW_step 15 rfl (by as_aux_lemma => kernel_rfl) (fun K hK => ?_)
  rw [if_pos (by unfold Region.wanted; rfl)]
  refine wp_app_f (.tmp 86) (.tmp 93) rfl base p (.slice (some ⟨gb, 0, none⟩) k k) (ts.take k) (ts.drop k1) rfl hcut ⟨gb, oo, none⟩ (ts.length - k1) (cap - k1) rfl (by rw [List.length_drop]) (drop_news' hcl (by omega) (by omega) hoo) (by rw [List.length_take, List.length_drop]; omega) (by omega) fun v9 w9 h1 h2 h3 => hK _ _ (relY_of (keptS_mono (P' := fun k => ov.ownBlock = some k) (keptS_row h2 (S := w6.heap.size) (by omega)) (by omega) (fun k _ h => by rw [hob.out]; exact h))) ?_
  rw [← hk1.out, erase_eq] at h1
  clear hK K hcl hcut hod
  have hb9 : ∀ j, j ≠ gb → some j ≠ Value.ownBlock (.slice (some ⟨gb, 0, none⟩) k k) := fun j hj e => hj (by cases e; rfl)
  have hs9 := (h2.block s (blk_lt hsd) (hb9 s (Ne.symm hgbs))).trans hsd
  have hg9 := (h2.block g (blk_lt hgd) (hb9 g (Ne.symm hgbg))).trans hgd
  have ht9 := (h2.block w5.heap.size (blk_lt htd) (hb9 _ (Ne.symm hvt))).trans htd
  have hk9 := keptS_trans _ _ _ _ _ hkd (keptS_mono (P' := fun k => k = g ∨ k = s ∨ ov.ownBlock = some k) (keptS_row h2 (S := wd.heap.size) (Nat.le_refl _)) (by omega) (fun k _ h => .inr (.inr (by rw [hob.out]; exact h))))
  have z9 := h2.size
  have hm9 : v9.ownBlock = ov.ownBlock ∨ ∃ k, v9.ownBlock = some k ∧ w6.heap.size ≤ k := by
    rcases h3 with h | ⟨k, e, hk⟩
    · exact .inl (by rw [h, hob.out]; rfl)
    · exact .inr ⟨k, e, by omega⟩
  obtain ⟨A9, c9, hv9⟩ := OwnF.val h1
  rw [List.length_eraseIdx, if_pos (by omega)] at hv9
  obtain ⟨n9, hn9⟩ : ∃ n, ts.length - 1 = n := ⟨_, rfl⟩
  rw [hn9] at hv9
  subst hv9
  clear h2 h3 hsd hgd htd hkd hb9
  replace hs9 := hide hs9
  replace hg9 := hide hg9
  replace ht9 := hide ht9
  replace hk9 := hide hk9
  replace h1 := hide h1
  replace hm9 := hide hm9
  replace hn9 := hide hn9
  refine wpW_step 16 rfl (by as_aux_lemma => kernel_rfl) (fun K hK => ?_)
  go_simp
  refine hK _ _ (relY_of (IsRel.refl _)) ?_
  clear hK K
  refine wpW_step 17 rfl (by as_aux_lemma => kernel_rfl) (fun K hK => ?_)
  go_simp
  refine hK _ _ (relY_of (IsRel.refl _)) ?_
  clear hK K
  have hc := (blk_cell hs9.out 12).trans (show (srcA g p ov)[12]? = some ov from rfl)
  have hf := blk_free hs9.out 12
  obtain ⟨w10, e10, hs10, g10⟩ := store_cell hs9.out 12 (.slice A9 n9 c9)
  rw [srcA_open] at hs10
  have hg10 := grown_other g10 (blk_lt hg9.out) hne hg9.out
  have ht10 := grown_other g10 (blk_lt ht9.out) (show w5.heap.size ≠ s by omega) ht9.out
  have ho10 := rowsP.other h1.out g10 (fun e => by
    rcases hm9.out with h | ⟨k, h, hk⟩
    · exact hvs.out (h.symm.trans e)
    · rw [h] at e; cases e; omega)
  have hk10 := keptS_trans _ _ _ _ _ hk9.out (keptS_grown (P := fun k => k = g ∨ k = s ∨ ov.ownBlock = some k) g10 (by omega) (.inr (.inr (.inl rfl))))
  have hm10 : (Value.slice A9 n9 c9).ownBlock = ov.ownBlock ∨ ∃ k, (Value.slice A9 n9 c9).ownBlock = some k ∧ w.heap.size ≤ k := hm9.out.imp id fun ⟨k, e, hk⟩ => ⟨k, e, by omega⟩
  have z10 := g10.size
  clear g10 hs9 hg9 ht9 hk9 h1 hm9
  replace hs10 := hide hs10
  replace hg10 := hide hg10
  replace ht10 := hide ht10
  replace ho10 := hide ho10
  replace hk10 := hide hk10
  replace hm10 := hide hm10
  refine wpW_step 18 rfl (by as_aux_lemma => kernel_rfl) (fun K hK => ?_)
  go_simp
  refine hK _ _ (relY_wr (by as_aux_lemma => kernel_rfl)) ?_
  clear hK K hc hf e10
  refine wpW_done (by as_aux_lemma => kernel_rfl) ?_ _
  have hcT := blk_cell ht10.out
  unfold flowP tuA at hcT
  go_upto_region 14 with fail
  apply wp_region_lit
  iterate 2 (refine wpList_plain rfl fun K hK => ?_; go_simp; refine hK _ _ ?_; clear hK K)
  clear hcT
  refine wpList_plain rfl fun K hK => ?_
  go_simp
  refine (hP6.out _ _ hs10.out hg10.out).mono ?_
  rintro e w11 ⟨v11, rfl, hv11, hg11, g11⟩
  go_simp
  refine hK _ _ ?_
  clear hK K
  iterate 1 (refine wpList_plain rfl fun K hK => ?_; go_simp; refine hK _ _ ?_; clear hK K)
  refine wpList_nil ?_
  have hs11 := grown_other g11 (blk_lt hs10.out) (Ne.symm hne) hs10.out
  have ho11 := rowsP.other ho10.out g11 (fun e => by
    rcases hm10.out with h | ⟨k, h, hk⟩
    · exact hvg.out (h.symm.trans e)
    · rw [h] at e; cases e; omega)
  have hk11 := keptS_trans _ _ _ _ _ hk10.out (keptS_grown (P := fun k => k = g ∨ k = s ∨ ov.ownBlock = some k) g11 (by omega) (.inr (.inl rfl)))
  have hv12 := hv11.weaken (base' := w.heap.size) (by omega)
  clear g11 hv11 hs10 hg10 ht10 ho10 hk10
  replace hg11 := hide hg11
  replace hs11 := hide hs11
  replace ho11 := hide ho11
  replace hk11 := hide hk11
  replace hv12 := hide hv12
  go_wp2_with fail
  go_ret
  exact ⟨_, _, rfl, hv12.out, hs11.out, hg11.out, ho11.out, hm10.out, hk11.out⟩
theorem Packet_any (s g a base : Nat) (p : PlanL) (ov : Value) (ts : List (Nat × Nat)) (hR : rightQ p) (hi : p.hi < 18446744073709551616) (lo : p.lo < 18446744073709551616) (hne : g ≠ s) (hvg : ov.ownBlock ≠ some g) (hvs : ov.ownBlock ≠ some s) (hl : ts.length ≤ 256) (hts : ∀ x ∈ ts, x.1 ≤ 65535 ∧ x.2 ≤ 65535) (w : World) (hs : SrcAt w s g p ov) (hg : GenAt w g a) (ho : OwnF w base p ov ts) (hbase : base ≤ w.heap.size) :
    Calls Try.prog 24 #[.pointer (some ⟨s, 0, none⟩)] w fun e w' => SrcEnd s g p base ov (pktT p a ts) w w' e := by
  by_cases h17 : p.pr = 17
  · exact next_udp s g a base p ov ts hR hi lo hne h17 hvg w hs hg ho
  have h6 : p.pr = 6 := by
    obtain ⟨_, _, _, _, _, _, _, r8, _⟩ := hR
    omega
  by_cases hnew : ts.length = 0 ∨ belN (mixN (stepN a)) 4 = 0 ∧ ts.length < 256
  · exact next_new s g a base p ov ts hR hi lo hne h6 hvg hvs hl hnew w hs hg ho hbase
  · exact next_go s g a base p ov ts hR hi lo hne h6 hvg hvs hl hts hnew w hs hg ho hbase
end Gen35
end Go.Proofs.Ytfmmmjaficbchaa
