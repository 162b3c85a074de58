/- gen: the document's next packet: a datagram, or one that opens a connection. Conditions: a plan that may be. -/
import Derived.Test.YtfmmmjaficbchaaQGenFlows3
import Derived.Test.YtfmmmjaficbchaaQNatFlows18
import Derived.Test.YtfmmmjaficbchaaQNatFlows16
namespace Go.Proofs.Ytfmmmjaficbchaa
open Go.RowKit Go.ChangeShapes Go.WideShapes Go.ChangeAt Go.Deep
namespace Gen35
open Mix (mixN belN mixN_lt)
open Pkt (InEnd tuA tuA_one wrapB dgU sgU dgmK sgmK tuZ alloc_tu size_tu)
/-- The document's traffic behind a packet. -/
def LawEnd (x : Nat) (p : PlanL) (base : Nat) (ov : Value) (r : List UInt8 × Nat × List (Nat × Nat)) (w w' : World) (e : Ending) : Prop :=
  ∃ v ov', e = .returned v ∧ OwnB w' w.heap.size v r.1 ∧ PlaAt w' x p r.2.1 ov' ∧ OwnF w' base p ov' r.2.2 ∧ (∀ k, ov'.ownBlock = some k → ov.ownBlock = some k ∨ w.heap.size ≤ k) ∧ KeptS w.heap.size (fun k => k = x ∨ ov.ownBlock = some k) w w'
theorem plaA_open (p : PlanL) (a : Nat) (o o' : Value) : (plaA p a o).setIfInBounds 12 o' = plaA p a o' := rfl
set_option maxRecDepth 20000 in
set_option maxHeartbeats 8000000 in
theorem lnext_udp (x a base : Nat) (p : PlanL) (ov : Value) (ts : List (Nat × Nat)) (hR : rightQ p) (hi : p.hi < 18446744073709551616) (lo : p.lo < 18446744073709551616) (h17 : p.pr = 17) (hvx : ov.ownBlock ≠ some x) (w : World) (hx : PlaAt w x p a ov) (ho : OwnF w base p ov ts) :
    Calls Try.prog 25 #[.pointer (some ⟨x, 0, none⟩)] w fun e w' => LawEnd x p base ov (pktT p a ts) w w' e := by
  obtain ⟨r1, r2, r3, r4, r5, r6, r7, r8, r9, r10⟩ := id hR
  have zx : x < w.heap.size := blk_lt hx
  unfold pktT
  rw [if_pos h17]
  obtain ⟨f, hf⟩ : ∃ x, flowN p a = x := ⟨_, rfl⟩
  obtain ⟨f1, f2⟩ := flowN_le p a hR
  rw [hf] at f1 f2 ⊢
  have hF := fun w hx => lflow_any x a p ov hR w hx
  rw [flowT_eq, hf] at hF
  obtain ⟨a2, ha2⟩ : ∃ b, stepN (stepN a) = b := ⟨_, rfl⟩
  rw [ha2] at hF ⊢
  have hBy := fun w hx => lbytes_any x a2 p ov r5 r6 w hx
  have hbl := bytesT_length p a2 r5 r6
  have hD := fun base v w ho => dgm_any p hR hi lo f f1 f2 h17 0 base v (bytesT p a2) w ho (by omega)
  obtain ⟨bs, hbs⟩ : ∃ b, bytesT p a2 = b := ⟨_, rfl⟩
  rw [hbs] at hBy hD ⊢
  obtain ⟨U, hU⟩ : ∃ U, packetB p f 0 bs = U := ⟨_, rfl⟩
  obtain ⟨a3, ha3⟩ : ∃ b, bytesS p a2 = b := ⟨_, rfl⟩
  rw [ha3] at hBy
  rw [hU] at hD
  rw [hU, ha3]
  have hc6 := (blk_cell hx 6).trans (show (plaA p a ov)[6]? = some (.int .i64 p.pr) from rfl)
  have t1 : (p.pr == 17) = true := by rw [h17]; rfl
  have hT9 : (flowP p f.1 f.2).size = 9 := rfl
  have hT1 := flowP_one p f.1 f.2
  clear hbl
  replace hx := hide hx
  replace ho := hide ho
  replace hf := hide hf
  replace hF := hide hF
  replace hBy := hide hBy
  replace hD := hide hD
  replace hU := hide hU
  replace ha2 := hide ha2
  replace ha3 := hide ha3
  replace h17 := hide h17
  replace hbs := hide hbs
  replace r8 := hide r8
  replace r7 := hide r7
  go_enter Try.func25, Try.ntmps25
  go_upto_region 2 with fail
  clear hc6
  apply wp_region_lit
  iterate 1 (refine wpList_plain rfl fun K hK => ?_; go_simp; refine hK _ _ ?_; clear hK K)
  refine wpList_plain rfl fun K hK => ?_
  go_simp
  refine (hF.out _ hx.out).mono ?_
  rintro e w3 ⟨rfl, hx3, g3⟩
  go_simp
  refine hK _ _ ?_
  clear hK K
  have ho3 := rowsP.other ho.out g3 hvx
  have z3 := g3.size
  have hk3 : KeptS w.heap.size (fun k => k = x ∨ ov.ownBlock = some k) w w3 := keptS_grown g3 (Nat.le_refl _) (.inr (.inl rfl))
  clear g3
  refine wpl_new rfl rfl 32 _ (alloc_tu _ rfl) 3 rfl (.tmp 25) rfl _ (fun _ => rfl) (fun _ => rfl) (by rfl) (by rw [size_tu, hT9]) hT1 ?_
  intro w4 ht4 hb4 hz4
  refine wpList_nil ?_
  have hx4 := blk_on hb4 hx3
  have ho4 := rowsP.below ho3 hb4
  have hk4 := keptS_trans _ _ _ _ _ hk3 (keptS_of_below (P := fun k => k = x ∨ ov.ownBlock = some k) hb4 z3)
  clear hb4 hx3 ho3 hk3
  replace hx4 := hide hx4
  replace ho4 := hide ho4
  replace hk4 := hide hk4
  replace ht4 := hide ht4
  go_upto_region 3 with fail
  refine wp_region_X (KeptS w4.heap.size (fun k => k = x)) (by as_aux_lemma => kernel_rfl) ?_
  intro wd hbd
  have hxd := blk_on hbd hx4.out
  have htd := blk_on hbd ht4.out
  have hod := rowsP.below ho4.out hbd
  have hkd := keptS_trans _ _ _ _ _ hk4.out (keptS_of_below (P := fun k => k = x ∨ ov.ownBlock = some k) hbd (by omega))
  have zd := hbd.size
  have hcL := fun (l : RelW (KeptS w4.heap.size (fun k => k = x)) wd) (o : Nat) => blk_cell ((l.hk.block w3.heap.size hz4 (by omega)).trans htd) o
  unfold flowP tuA at hcL
  refine wpX_seg (KeptS w4.heap.size (fun k => k = x)) 0 2 (fuel := 7) (by as_aux_lemma => kernel_rfl) (fun d _ _ _ _ h => by cases d <;> exact h) (by as_aux_lemma => kernel_rfl) (by as_aux_lemma => kernel_rfl) ?_
  simp only [List.drop_zero, List.take_succ_cons, List.take_zero]
  iterate 2 (refine wpQX_step (fun K hK => ?_); go_simp; refine hK _ ?_; clear hK K)
  refine wpQF_nil ?_
  clear hcL htd
  refine wpF_step 2 rfl (by as_aux_lemma => kernel_rfl) (fun K hK => ?_)
  go_simp
  go_at_call 50
  refine (hBy.out _ hxd).mono ?_
  rintro e w5 ⟨v5, rfl, hv5, hx5, g5⟩
  refine hK _ _ (Pkt.keptS_grown1 g5 zd rfl) ?_
  clear hK K
  have ho5 := rowsP.other hod g5 hvx
  have hk5 := keptS_trans _ _ _ _ _ hkd (keptS_grown (P := fun k => k = x ∨ ov.ownBlock = some k) g5 (by omega) (.inr (.inl rfl)))
  have z5 := g5.size
  clear g5 hxd hod hkd hbd
  replace hv5 := hide hv5
  replace hx5 := hide hx5
  replace ho5 := hide ho5
  replace hk5 := hide hk5
  refine wpF_step 3 rfl (by as_aux_lemma => kernel_rfl) (fun K hK => ?_)
  go_simp
  go_at_call 16
  refine (hD.out _ _ _ hv5.out).mono ?_
  rintro e w6 ⟨v6, rfl, h6, -, hb6⟩
  refine hK _ _ (keptS_of_below hb6 (by omega)) ?_
  clear hK K
  have hv6 := (h6 rfl).weaken (base' := w.heap.size) (by omega)
  have hx6 := blk_on hb6 hx5.out
  have ho6 := rowsP.below ho5.out hb6
  have hk6 := keptS_trans _ _ _ _ _ hk5.out (keptS_of_below (P := fun k => k = x ∨ ov.ownBlock = some k) hb6 (by omega))
  clear h6 hb6 hv5 hx5 ho5 hk5
  replace hv6 := hide hv6
  replace hx6 := hide hx6
  replace ho6 := hide ho6
  replace hk6 := hide hk6
  refine wpX_seg (KeptS w4.heap.size (fun k => k = x)) 4 5 (fuel := 0) (by as_aux_lemma => kernel_rfl) (fun d _ _ _ _ h => by cases d <;> exact h) (by as_aux_lemma => kernel_rfl) (by as_aux_lemma => kernel_rfl) ?_
  simp only [List.drop_succ_cons, List.drop_zero, List.take_succ_cons, List.take_zero]
  iterate 5 (refine wpQX_step (fun K hK => ?_); go_simp; refine hK _ ?_; clear hK K)
  refine wpQF_nil ?_
  refine wpF_done (by as_aux_lemma => kernel_rfl) ?_ 0
  go_wp2_with fail
  go_ret
  exact ⟨_, _, rfl, hv6.out, hx6.out, ho6.out, fun k h => .inl h, hk6.out⟩
set_option maxRecDepth 20000 in
set_option maxHeartbeats 8000000 in
theorem lnext_new (x a base : Nat) (p : PlanL) (ov : Value) (ts : List (Nat × Nat)) (hR : rightQ p) (hi : p.hi < 18446744073709551616) (lo : p.lo < 18446744073709551616) (h6 : p.pr = 6) (hvx : ov.ownBlock ≠ some x) (hl : ts.length ≤ 256) (hnew : ts.length = 0 ∨ belN (mixN (stepN a)) 4 = 0 ∧ ts.length < 256) (w : World) (hx : PlaAt w x p a ov) (ho : OwnF w base p ov ts) (hbase : base ≤ w.heap.size) :
    Calls Try.prog 25 #[.pointer (some ⟨x, 0, none⟩)] w fun e w' => LawEnd x p base ov (pktT p a ts) w w' e := by
  obtain ⟨r1, r2, r3, r4, r5, r6, r7, r8, r9, r10⟩ := id hR
  have zx : x < w.heap.size := blk_lt hx
  unfold pktT
  rw [if_neg (by omega), if_pos hnew]
  obtain ⟨a1, ha1⟩ : ∃ b, stepN a = b := ⟨_, rfl⟩
  have hNx := fun w hg => lnext_any x a p ov w hg
  rw [ha1] at hNx hnew ⊢
  have m1 := mixN_lt a1
  have hBe := fun w => Mix.refBelow_any (mixN a1) 4 m1 (by omega) w
  obtain ⟨k0, hk0⟩ : ∃ k, belN (mixN a1) 4 = k := ⟨_, rfl⟩
  rw [show (4 : Int).toNat = 4 from rfl, hk0] at hBe
  rw [hk0] at hnew
  obtain ⟨m, hm⟩ : ∃ m, mixN a1 = m := ⟨_, rfl⟩
  rw [hm] at hNx hBe
  obtain ⟨f, hf⟩ : ∃ x, flowN p a1 = x := ⟨_, rfl⟩
  obtain ⟨f1, f2⟩ := flowN_le p a1 hR
  rw [hf] at f1 f2 ⊢
  have hF := fun w hx => lflow_any x a1 p ov hR w hx
  rw [flowT_eq, hf] at hF
  obtain ⟨a2, ha2⟩ : ∃ b, stepN (stepN a1) = b := ⟨_, rfl⟩
  rw [ha2] at hF ⊢
  have hBy := fun ov w hx => lbytes_any x a2 p ov r5 r6 w hx
  have hbl := bytesT_length p a2 r5 r6
  have hD := fun base v w ho => sgm_any p hR hi lo f f1 f2 h6 2 (by omega) base v (bytesT p a2) w ho (by omega)
  obtain ⟨bs, hbs⟩ : ∃ b, bytesT p a2 = b := ⟨_, rfl⟩
  rw [hbs] at hBy hD ⊢
  obtain ⟨U, hU⟩ : ∃ U, packetB p f 2 bs = U := ⟨_, rfl⟩
  obtain ⟨a3, ha3⟩ : ∃ b, bytesS p a2 = b := ⟨_, rfl⟩
  rw [ha3] at hBy
  rw [hU] at hD
  rw [hU, ha3]
  have hc6 := (blk_cell hx 6).trans (show (plaA p a ov)[6]? = some (.int .i64 p.pr) from rfl)
  have t1 : (p.pr == 17) = false := by rw [h6]; rfl
  obtain ⟨A, cap, hov⟩ := ho.val
  have hT9 : (flowP p f.1 f.2).size = 9 := rfl
  have hT1 := flowP_one p f.1 f.2
  clear hbl hk0
  replace hx := hide hx
  replace ho := hide ho
  replace hf := hide hf
  replace hF := hide hF
  replace hBy := hide hBy
  replace hD := hide hD
  replace hU := hide hU
  replace ha2 := hide ha2
  replace ha3 := hide ha3
  replace h6 := hide h6
  replace hbs := hide hbs
  replace r8 := hide r8
  replace r7 := hide r7
  replace hNx := hide hNx
  replace hBe := hide hBe
  replace ha1 := hide ha1
  replace hm := hide hm
  replace hov := hide hov
  replace hvx := hide hvx
  go_enter Try.func25, Try.ntmps25
  go_upto_region 5 with fail
  clear hc6
  go_wp2_with fail
  refine (hNx.out _ hx.out).mono ?_
  rintro e w3 ⟨rfl, hx3, g3⟩
  have ho3 := rowsP.other ho.out g3 hvx.out
  have z3 := g3.size
  have hk3 : KeptS w.heap.size (fun k => k = x ∨ ov.ownBlock = some k) w w3 := keptS_grown g3 (Nat.le_refl _) (.inr (.inl rfl))
  clear g3
  replace hx3 := hide hx3
  replace ho3 := hide ho3
  replace hk3 := hide hk3
  go_wp2_with fail
  refine (hBe.out _).mono ?_
  rintro e w4 ⟨rfl, rfl⟩
  have hc12 := (blk_cell hx3.out 12).trans (show (plaA p a1 ov)[12]? = some ov from rfl)
  rw [hov.out] at hc12
  go_upto_region 6 with fail
  go_cut [54] (fun bv wx => bv = .bool true ∧ w3 = wx)
  case first =>
    by_cases hz : ts.length = 0
    · have t2 : ((ts.length : Int) == 0) = true := by rw [hz]; rfl
      go_wp2_with fail
      go_meet
      exact ⟨rfl, rfl⟩
    · have t2 : ((ts.length : Int) == 0) = false := by rw [beq_eq_false_iff_ne]; omega
      obtain ⟨e0, e1⟩ : k0 = 0 ∧ ts.length < 256 := by omega
      have t3 : ((k0 : Int) == 0) = true := by rw [e0]; rfl
      have t4 : (ts.length : Int) < 256 := by omega
      clear e0
      go_wp2_with fail
      go_meet
      exact ⟨rfl, rfl⟩
  case rest =>
  obtain ⟨rfl, rfl⟩ := hcut
  clear hc12
  go_upto_region 7 with fail
  apply wp_region_lit
  iterate 1 (refine wpList_plain rfl fun K hK => ?_; go_simp; refine hK _ _ ?_; clear hK K)
  refine wpList_plain rfl fun K hK => ?_
  go_simp
  refine (hF.out _ hx3.out).mono ?_
  rintro e w5 ⟨rfl, hx5, g5⟩
  go_simp
  refine hK _ _ ?_
  clear hK K
  have ho5 := rowsP.other ho3.out g5 hvx.out
  have z5 := g5.size
  have hk5 := keptS_trans _ _ _ _ _ hk3.out (keptS_grown (P := fun k => k = x ∨ ov.ownBlock = some k) g5 z3 (.inr (.inl rfl)))
  clear g5 hx3 ho3 hk3
  replace hx5 := hide hx5
  replace ho5 := hide ho5
  replace hk5 := hide hk5
  refine wpl_new rfl rfl 32 _ (alloc_tu _ rfl) 7 rfl (.tmp 56) rfl _ (fun _ => rfl) (fun _ => rfl) (by rfl) (by rw [size_tu, hT9]) hT1 ?_
  intro w6 ht6 hb6 hz6
  refine wpList_nil ?_
  have hx6 := blk_on hb6 hx5.out
  have ho6 := rowsP.below ho5.out hb6
  have hk6 := keptS_trans _ _ _ _ _ hk5.out (keptS_of_below (P := fun k => k = x ∨ ov.ownBlock = some k) hb6 (by omega))
  have hvt : ov.ownBlock ≠ some w5.heap.size := fun e => by
    have := (rowsP.lt ho5.out _ e).2
    omega
  clear hb6 hx5 ho5 hk5
  replace hx6 := hide hx6
  replace ho6 := hide ho6
  replace hk6 := hide hk6
  replace ht6 := hide ht6
  go_upto_region 8 with fail
  refine wp_region_Y [10] (KeptS w6.heap.size (fun k => ov.ownBlock = some k)) (by as_aux_lemma => kernel_rfl) ?_
  intro wd hbd
  have hxd := blk_on hbd hx6.out
  have htd := blk_on hbd ht6.out
  have hod := rowsP.below ho6.out hbd
  have hkd := keptS_trans _ _ _ _ _ hk6.out (keptS_of_below (P := fun k => k = x ∨ ov.ownBlock = some k) hbd (by omega))
  have zd := hbd.size
  have hc12 := fun l : RelW (KeptS w6.heap.size (fun k => ov.ownBlock = some k)) wd => (blk_cell ((l.hk.block x (by omega) (by have := hvx.out; exact this)).trans hxd) 12).trans (show (plaA p a2 ov)[12]? = some ov from rfl)
  have hcT := fun (l : RelW (KeptS w6.heap.size (fun k => ov.ownBlock = some k)) wd) (o : Nat) => blk_cell ((l.hk.block w5.heap.size hz6 hvt).trans htd) o
  unfold flowP tuA at hcT
  refine wpY_seg [10] (KeptS w6.heap.size (fun k => ov.ownBlock = some k)) 0 6 (fuel := 5) (by as_aux_lemma => kernel_rfl) (fun d _ _ _ _ h => by cases d <;> exact h) (by as_aux_lemma => kernel_rfl) (by as_aux_lemma => kernel_rfl) (by as_aux_lemma => kernel_rfl) ?_
  simp only [List.drop_zero, List.take_succ_cons, List.take_zero]
  iterate 6 (refine wpQX_step (fun K hK => ?_); go_simp; refine hK _ ?_; clear hK K)
  refine wpQF_nil ?_
  clear hc12 hcT
  refine wpW_step 6 rfl (by as_aux_lemma => kernel_rfl) (fun K hK => ?_)
  go_simp
  refine hK _ _ (relY_of (keptS_of_below ((Below.refl _ _).alloc (Nat.le_refl _) _) zd)) ?_
  clear hK K
  obtain ⟨w8, hw8⟩ : ∃ w8, wd.alloc (.cells (flowP p f.1 f.2) 32) = w8 := ⟨_, rfl⟩
  have hb8 : Below wd.heap.size wd w8 := hw8 ▸ (Below.refl _ _).alloc (Nat.le_refl _) _
  have hn8 : w8.heap[wd.heap.size]? = some (.cells (flowP p f.1 f.2) 32 (0, 0)) := hw8 ▸ blk_new _ _ _
  change wpW _ _ _ _ _ _ _ _ (wd.alloc (.cells (flowP p f.1 f.2) 32))
  rw [hw8]
  have hx8 := blk_on hb8 hxd
  have ht8 := blk_on hb8 htd
  have ho8 := rowsP.below hod hb8
  have hk8 := keptS_trans _ _ _ _ _ hkd (keptS_of_below (P := fun k => k = x ∨ ov.ownBlock = some k) hb8 (by omega))
  have z8 := hb8.size
  clear hw8 hb8 hxd htd hod hkd
  refine wpW_step 7 rfl (by as_aux_lemma => kernel_rfl) (fun K hK => ?_)
  rw [if_pos (by unfold Region.wanted; rfl)]
  refine wp_app_f (.tmp 61) (.tmp 63) rfl base p ov ts [f] rfl ho8 ⟨wd.heap.size, 0, none⟩ 1 1 rfl rfl (lit_news hn8) (by rw [List.length_singleton]; omega) (by omega) fun v9 w9 h1 h2 h3 => hK _ _ (relY_of (keptS_row h2 (by omega))) ?_
  clear hK K hn8
  have hx9 := (h2.block x (blk_lt hx8) (fun e => hvx.out e.symm)).trans hx8
  have ht9 := (h2.block w5.heap.size (blk_lt ht8) (fun e => hvt e.symm)).trans ht8
  have hk9 := keptS_trans _ _ _ _ _ hk8 (keptS_mono (P' := fun k => k = x ∨ ov.ownBlock = some k) (keptS_row h2 (Nat.le_refl _)) (by omega) (fun k _ h => .inr h))
  have z9 := h2.size
  have hm9 : ∀ k, v9.ownBlock = some k → ov.ownBlock = some k ∨ w6.heap.size ≤ k := fun k e => by
    rcases h3 with h | ⟨j, h, hj⟩
    · exact .inl (h.symm.trans e)
    · rw [h] at e; cases e; exact .inr (by omega)
  obtain ⟨A9, c9, hv9⟩ := OwnF.val h1
  rw [List.length_append, List.length_singleton] at hv9
  subst hv9
  clear h2 h3 hx8 ht8 ho8 hk8
  replace hx9 := hide hx9
  replace ht9 := hide ht9
  replace hk9 := hide hk9
  replace h1 := hide h1
  replace hm9 := hide hm9
  refine wpW_step 8 rfl (by as_aux_lemma => kernel_rfl) (fun K hK => ?_)
  go_simp
  refine hK _ _ (relY_of (IsRel.refl _)) ?_
  clear hK K
  refine wpW_step 9 rfl (by as_aux_lemma => kernel_rfl) (fun K hK => ?_)
  go_simp
  refine hK _ _ (relY_of (IsRel.refl _)) ?_
  clear hK K
  have hc := (blk_cell hx9.out 12).trans (show (plaA p a2 ov)[12]? = some ov from rfl)
  have hf' := blk_free hx9.out 12
  obtain ⟨w10, e10, hx10, g10⟩ := store_cell hx9.out 12 (.slice A9 (ts.length + 1) c9)
  rw [plaA_open] at hx10
  have ht10 := grown_other g10 (blk_lt ht9.out) (show w5.heap.size ≠ x by omega) ht9.out
  have ho10 := rowsP.other h1.out g10 (fun e => by
    rcases hm9.out _ e with h | h
    · exact hvx.out h
    · omega)
  have hk10 := keptS_trans _ _ _ _ _ hk9.out (keptS_grown (P := fun k => k = x ∨ ov.ownBlock = some k) g10 (by omega) (.inr (.inl rfl)))
  have z10 := g10.size
  clear g10 hx9 ht9 hk9 h1
  replace hx10 := hide hx10
  replace ht10 := hide ht10
  replace ho10 := hide ho10
  replace hk10 := hide hk10
  refine wpW_step 10 rfl (by as_aux_lemma => kernel_rfl) (fun K hK => ?_)
  go_simp
  refine hK _ _ (relY_wr (by as_aux_lemma => kernel_rfl)) ?_
  clear hK K hc hf' e10
  refine wpW_done (by as_aux_lemma => kernel_rfl) ?_ _
  go_upto_region 9 with fail
  refine wp_region_X (KeptS w10.heap.size (fun k => k = x)) (by as_aux_lemma => kernel_rfl) ?_
  intro we hbe
  have hxe := blk_on hbe hx10.out
  have hte := blk_on hbe ht10.out
  have hoe := rowsP.below ho10.out hbe
  have hke := keptS_trans _ _ _ _ _ hk10.out (keptS_of_below (P := fun k => k = x ∨ ov.ownBlock = some k) hbe (by omega))
  have ze := hbe.size
  have hcL := fun (l : RelW (KeptS w10.heap.size (fun k => k = x)) we) (o : Nat) => blk_cell ((l.hk.block w5.heap.size (by omega) (by omega)).trans hte) o
  unfold flowP tuA at hcL
  refine wpX_seg (KeptS w10.heap.size (fun k => k = x)) 0 2 (fuel := 7) (by as_aux_lemma => kernel_rfl) (fun d _ _ _ _ h => by cases d <;> exact h) (by as_aux_lemma => kernel_rfl) (by as_aux_lemma => kernel_rfl) ?_
  simp only [List.drop_zero, List.take_succ_cons, List.take_zero]
  iterate 2 (refine wpQX_step (fun K hK => ?_); go_simp; refine hK _ ?_; clear hK K)
  refine wpQF_nil ?_
  clear hcL hte
  refine wpF_step 2 rfl (by as_aux_lemma => kernel_rfl) (fun K hK => ?_)
  go_simp
  go_at_call 50
  refine (hBy.out _ _ hxe).mono ?_
  rintro e w11 ⟨v11, rfl, hv11, hx11, g11⟩
  refine hK _ _ (Pkt.keptS_grown1 g11 ze rfl) ?_
  clear hK K
  have ho11 := rowsP.other hoe g11 (fun e => by
    rcases hm9.out _ e with h | h
    · exact hvx.out h
    · omega)
  have hk11 := keptS_trans _ _ _ _ _ hke (keptS_grown (P := fun k => k = x ∨ ov.ownBlock = some k) g11 (by omega) (.inr (.inl rfl)))
  have z11 := g11.size
  clear g11 hxe hoe hke hbe
  replace hv11 := hide hv11
  replace hx11 := hide hx11
  replace ho11 := hide ho11
  replace hk11 := hide hk11
  refine wpF_step 3 rfl (by as_aux_lemma => kernel_rfl) (fun K hK => ?_)
  go_simp
  go_at_call 18
  refine (hD.out _ _ _ hv11.out).mono ?_
  rintro e w12 ⟨v12, rfl, h12, -, hb12⟩
  refine hK _ _ (keptS_of_below hb12 (by omega)) ?_
  clear hK K
  have hv12 := (h12 rfl).weaken (base' := w.heap.size) (by omega)
  have hx12 := blk_on hb12 hx11.out
  have ho12 := rowsP.below ho11.out hb12
  have hk12 := keptS_trans _ _ _ _ _ hk11.out (keptS_of_below (P := fun k => k = x ∨ ov.ownBlock = some k) hb12 (by omega))
  clear h12 hb12 hv11 hx11 ho11 hk11
  have hmE : ∀ k, (Value.slice A9 (ts.length + 1) c9).ownBlock = some k → ov.ownBlock = some k ∨ w.heap.size ≤ k := fun k e => (hm9.out k e).imp id (by omega)
  replace hv12 := hide hv12
  replace hx12 := hide hx12
  replace ho12 := hide ho12
  replace hk12 := hide hk12
  replace hmE := hide hmE
  refine wpX_seg (KeptS w10.heap.size (fun k => k = x)) 4 5 (fuel := 0) (by as_aux_lemma => kernel_rfl) (fun d _ _ _ _ h => by cases d <;> exact h) (by as_aux_lemma => kernel_rfl) (by as_aux_lemma => kernel_rfl) ?_
  simp only [List.drop_succ_cons, List.drop_zero, List.take_succ_cons, List.take_zero]
  iterate 5 (refine wpQX_step (fun K hK => ?_); go_simp; refine hK _ ?_; clear hK K)
  refine wpQF_nil ?_
  refine wpF_done (by as_aux_lemma => kernel_rfl) ?_ 0
  go_wp2_with fail
  go_ret
  exact ⟨_, _, rfl, hv12.out, hx12.out, ho12.out, hmE.out, hk12.out⟩
end Gen35
end Go.Proofs.Ytfmmmjaficbchaa
/- gen: the document's next packet: one that goes on with a connection, or ends it. Conditions: a plan that may be. -/
namespace Go.Proofs.Ytfmmmjaficbchaa
open Go.RowKit Go.ChangeShapes Go.WideShapes Go.ChangeAt Go.Deep
namespace Gen35
open Mix (mixN belN mixN_lt)
open Pkt (InEnd tuA tuA_one wrapB dgU sgU dgmK sgmK tuZ alloc_tu size_tu)
theorem erase_next (ts : List (Nat × Nat)) (k j : Nat) (y : Nat × Nat) (hy : ts[j]? = some y) (hne : j ≠ k) : (ts.take (j + 1)).eraseIdx k = (ts.take j).eraseIdx k ++ [y] := by
  have hj : j < ts.length := (List.getElem?_eq_some_iff.1 hy).1
  have hl : (ts.take j).length = j := by rw [List.length_take]; omega
  rw [List.take_add_one, hy]
  show (ts.take j ++ [y]).eraseIdx k = _
  by_cases hk : k < j
  · rw [List.eraseIdx_append_of_lt_length (by omega)]
  · rw [List.eraseIdx_append_of_length_le (by omega), hl]
    rw [List.eraseIdx_of_length_le (l := ts.take j) (by omega)]
    obtain ⟨i, hi⟩ : ∃ i, k - j = i + 1 := ⟨k - j - 1, by omega⟩
    rw [hi]
    rfl
theorem erase_skip (ts : List (Nat × Nat)) (k : Nat) (hk : k < ts.length) : (ts.take (k + 1)).eraseIdx k = (ts.take k).eraseIdx k := by
  have hl : (ts.take k).length = k := by rw [List.length_take]; omega
  rw [List.take_add_one, List.getElem?_eq_getElem hk]
  show (ts.take k ++ [ts[k]]).eraseIdx k = _
  rw [List.eraseIdx_append_of_length_le (by omega), hl, Nat.sub_self, List.eraseIdx_of_length_le (l := ts.take k) (by omega)]
  simp
theorem erase_len (ts : List (Nat × Nat)) (k j : Nat) : ((ts.take j).eraseIdx k).length ≤ j := by
  have h1 : (ts.take j).length ≤ j := by rw [List.length_take]; omega
  have := List.length_eraseIdx_le (ts.take j) k
  omega
set_option maxRecDepth 20000 in
set_option maxHeartbeats 8000000 in
theorem lnext_go (x a base : Nat) (p : PlanL) (ov : Value) (ts : List (Nat × Nat)) (hR : rightQ p) (hi : p.hi < 18446744073709551616) (lo : p.lo < 18446744073709551616) (h6 : p.pr = 6) (hvx : ov.ownBlock ≠ some x) (hl : ts.length ≤ 256) (hts : ∀ x ∈ ts, x.1 ≤ 65535 ∧ x.2 ≤ 65535) (hnew : ¬ (ts.length = 0 ∨ belN (mixN (stepN a)) 4 = 0 ∧ ts.length < 256)) (w : World) (hx : PlaAt w x p a ov) (ho : OwnF w base p ov ts) (hbase : base ≤ w.heap.size) :
    Calls Try.prog 25 #[.pointer (some ⟨x, 0, none⟩)] w fun e w' => LawEnd x p base ov (pktT p a ts) w w' e := by
  obtain ⟨r1, r2, r3, r4, r5, r6, r7, r8, r9, r10⟩ := id hR
  have zx : x < w.heap.size := blk_lt hx
  unfold pktT
  rw [if_neg (by omega), if_neg hnew]
  obtain ⟨a1, ha1⟩ : ∃ b, stepN a = b := ⟨_, rfl⟩
  have hNx := fun w hg => lnext_any x a p ov w hg
  rw [ha1] at hNx hnew ⊢
  have m1 := mixN_lt a1
  have hBe := fun w => Mix.refBelow_any (mixN a1) 4 m1 (by omega) w
  obtain ⟨k0, hk0⟩ : ∃ k, belN (mixN a1) 4 = k := ⟨_, rfl⟩
  rw [show (4 : Int).toNat = 4 from rfl, hk0] at hBe
  rw [hk0] at hnew ⊢
  obtain ⟨m, hm⟩ : ∃ m, mixN a1 = m := ⟨_, rfl⟩
  rw [hm] at hNx hBe
  obtain ⟨a2, ha2⟩ : ∃ b, stepN a1 = b := ⟨_, rfl⟩
  have hNx2 := fun w hg => lnext_any x a1 p ov w hg
  rw [ha2] at hNx2 ⊢
  have m2 := mixN_lt a2
  have hBe2 := fun w => Mix.refBelow_any (mixN a2) (ts.length : Int) m2 (by omega) w
  rw [Int.toNat_natCast] at hBe2
  have n2 := Mix.belN_lt (mixN a2) ts.length m2 (by omega)
  obtain ⟨k, hk⟩ : ∃ k, belN (mixN a2) ts.length = k := ⟨_, rfl⟩
  rw [hk] at hBe2 n2 ⊢
  obtain ⟨m2', hm2⟩ : ∃ m, mixN a2 = m := ⟨_, rfl⟩
  rw [hm2] at hNx2 hBe2
  obtain ⟨f, hf⟩ : ∃ x, ts[k]? = some x := ⟨ts[k], List.getElem?_eq_getElem n2⟩
  have hxg : ts.getD k (0, 0) = f := by rw [List.getD_eq_getElem?_getD, hf]; rfl
  rw [hxg]
  obtain ⟨f1, f2⟩ := hts f (List.mem_of_getElem? hf)
  have hBy := fun ov w hx => lbytes_any x a2 p ov r5 r6 w hx
  have hbl := bytesT_length p a2 r5 r6
  have hD := fun fl hf base v w ho => sgm_any p hR hi lo f f1 f2 h6 fl hf base v (bytesT p a2) w ho (by omega)
  obtain ⟨a3, ha3⟩ : ∃ b, bytesS p a2 = b := ⟨_, rfl⟩
  obtain ⟨bs, hbs⟩ : ∃ b, bytesT p a2 = b := ⟨_, rfl⟩
  rw [ha3, hbs] at hBy
  rw [hbs] at hD
  rw [ha3, hbs]
  obtain ⟨r, hr⟩ : ∃ r, (if k0 = 1 then (packetB p f 17 bs, a3, ts.eraseIdx k) else (packetB p f 16 bs, a3, ts)) = r := ⟨_, rfl⟩
  rw [hr]
  have hc6 := (blk_cell hx 6).trans (show (plaA p a ov)[6]? = some (.int .i64 p.pr) from rfl)
  have t1 : (p.pr == 17) = false := by rw [h6]; rfl
  obtain ⟨A, cap, hov⟩ := ho.val
  have hT9 : (flowP p f.1 f.2).size = 9 := rfl
  have hT1 := flowP_one p f.1 f.2
  have hz0 : ts.length ≠ 0 := by omega
  clear hk0 hts hbl
  replace hx := hide hx
  replace ho := hide ho
  replace hf := hide hf
  replace hBy := hide hBy
  replace hD := hide hD
  replace ha2 := hide ha2
  replace ha3 := hide ha3
  replace h6 := hide h6
  replace hNx := hide hNx
  replace hBe := hide hBe
  replace hNx2 := hide hNx2
  replace hBe2 := hide hBe2
  replace hm2 := hide hm2
  replace hk := hide hk
  replace ha1 := hide ha1
  replace hm := hide hm
  replace hov := hide hov
  replace hvx := hide hvx
  replace hbs := hide hbs
  replace hr := hide hr
  replace r7 := hide r7
  replace r8 := hide r8
  go_enter Try.func25, Try.ntmps25
  go_upto_region 5 with fail
  clear hc6
  go_wp2_with fail
  refine (hNx.out _ hx.out).mono ?_
  rintro e w3 ⟨rfl, hx3, g3⟩
  have ho3 := rowsP.other ho.out g3 hvx.out
  have z3 := g3.size
  have hk3 : KeptS w.heap.size (fun k => k = x ∨ ov.ownBlock = some k) w w3 := keptS_grown g3 (Nat.le_refl _) (.inr (.inl rfl))
  clear g3
  replace hx3 := hide hx3
  replace ho3 := hide ho3
  replace hk3 := hide hk3
  go_wp2_with fail
  refine (hBe.out _).mono ?_
  rintro e w4 ⟨rfl, rfl⟩
  have hc12 := (blk_cell hx3.out 12).trans (show (plaA p a1 ov)[12]? = some ov from rfl)
  rw [hov.out] at hc12
  go_upto_region 6 with fail
  go_cut [54] (fun bv wx => bv = .bool false ∧ w3 = wx)
  case first =>
    have t2 : ((ts.length : Int) == 0) = false := by rw [beq_eq_false_iff_ne]; omega
    by_cases e0 : k0 = 0
    · have t3 : ((k0 : Int) == 0) = true := by rw [e0]; rfl
      have t4 : ¬ (ts.length : Int) < 256 := by omega
      clear e0
      go_wp2_with fail
      go_meet
      exact ⟨by first | rfl | (congr 1; exact decide_eq_false t4), rfl⟩
    · have t3 : ((k0 : Int) == 0) = false := by rw [beq_eq_false_iff_ne]; omega
      clear e0
      go_wp2_with fail
      go_meet
      exact ⟨rfl, rfl⟩
  case rest =>
  obtain ⟨rfl, rfl⟩ := hcut
  clear hc12
  go_upto_region 11 with fail
  refine wp_region_X (KeptC w3.heap.size (fun k => k = x) (butCell x 11)) (by as_aux_lemma => kernel_rfl) ?_
  intro wd hbd
  have hxd := blk_on hbd hx3.out
  have hod := rowsP.below ho3.out hbd
  have zd := hbd.size
  have hcx := blk_cell hxd
  have hcL := fun (l : RelW (KeptC w3.heap.size (fun k => k = x) (butCell x 11)) wd) (o : Nat) (ho : o ≠ 11) => l.cellC (hcx o) ⟨o, rfl, ho⟩
  have hc12 := fun l => (hcL l 12 (by omega)).trans (show (plaA p a1 ov)[12]? = some ov from rfl)
  clear hcL hcx
  rw [hov.out] at hc12
  refine wpX_seg (KeptC w3.heap.size (fun k => k = x) (butCell x 11)) 0 1 (fuel := 8) (by as_aux_lemma => kernel_rfl) (fun d _ _ _ _ h => by cases d <;> exact h) (by as_aux_lemma => kernel_rfl) (by as_aux_lemma => kernel_rfl) ?_
  simp only [List.drop_zero, List.take_succ_cons, List.take_zero]
  iterate 1 (refine wpQX_step (fun K hK => ?_); go_simp; refine hK _ ?_; clear hK K)
  refine wpQF_nil ?_
  refine wpX_seg (KeptC w3.heap.size (fun k => k = x) (butCell x 11)) 2 5 (fuel := 3) (by as_aux_lemma => kernel_rfl) (fun d _ _ _ _ h => by cases d <;> exact h) (by as_aux_lemma => kernel_rfl) (by as_aux_lemma => kernel_rfl) ?_
  simp only [List.drop_succ_cons, List.drop_zero, List.take_succ_cons, List.take_zero]
  iterate 5 (refine wpQX_step (fun K hK => ?_); go_simp; refine hK _ ?_; clear hK K)
  refine wpQF_nil ?_
  clear hc12
  refine wpF_step 1 rfl (by as_aux_lemma => kernel_rfl) (fun K hK => ?_)
  go_simp
  go_at_call 52
  refine (hNx2.out _ hxd).mono ?_
  rintro e w5 ⟨rfl, hx5, g5⟩
  refine hK _ _ (keptC_cells g5 zd hxd hx5 (plaA_but p a1 a2 ov)) ?_
  clear hK K
  have ho5 := rowsP.other hod g5 hvx.out
  have hk5 := keptS_trans _ _ _ _ _ (keptS_trans _ _ _ _ _ hk3.out (keptS_of_below (P := fun k => k = x ∨ ov.ownBlock = some k) hbd (by omega))) (keptS_grown (P := fun k => k = x ∨ ov.ownBlock = some k) g5 (by omega) (.inr (.inl rfl)))
  have z5 : w3.heap.size ≤ w5.heap.size := Nat.le_trans zd g5.size
  clear g5 hxd hod hbd zd hx3 ho3 hk3
  replace hx5 := hide hx5
  replace ho5 := hide ho5
  replace hk5 := hide hk5
  refine wpF_step 7 rfl (by as_aux_lemma => kernel_rfl) (fun K hK => ?_)
  go_simp
  go_at_call 51
  refine (hBe2.out _).mono ?_
  rintro e w4 ⟨rfl, rfl⟩
  refine hK _ _ (IsRel.refl _) ?_
  clear hK K
  refine wpF_step 8 rfl (by as_aux_lemma => kernel_rfl) (fun K hK => ?_)
  go_simp
  refine hK _ _ (IsRel.refl _) ?_
  clear hK K
  refine wpF_done (by as_aux_lemma => kernel_rfl) ?_ 0
  obtain ⟨gb, cb, hvb, hgb1, hgb2, hcb1, hcb2, hrng⟩ := OwnF.row ho5.out hf.out
  obtain rfl : A = some ⟨gb, 0, none⟩ := by have := hov.out.symm.trans hvb; cases this; rfl
  obtain rfl : cap = cb := by have := hov.out.symm.trans hvb; cases this; rfl
  have hc12 := (blk_cell hx5.out 12).trans (show (plaA p a2 ov)[12]? = some ov from rfl)
  rw [hov.out] at hc12
  have q1 : (k : Int) < (ts.length : Int) := by omega
  have q2 : (0 : Int) ≤ (k : Int) := by omega
  replace hvb := hide hvb
  replace hrng := hide hrng
  go_upto_region 12 with fail
  apply wp_region_lit
  iterate 6 (refine wpList_plain rfl fun K hK => ?_; go_simp; refine hK _ _ ?_; clear hK K)
  refine wpList_load_mid rfl 32 (.tmp 88) rfl gb (k * 9) rfl (cellsF p f) _ hrng.out Try.underlying32 rfl (by kernel_rfl) ?_
  rw [show (cellsF p f).toArray = flowP p f.1 f.2 from rfl]
  dsimp only [Act.put]
  refine wpl_new rfl rfl 32 _ (alloc_tu _ rfl) 11 rfl (.tmp 89) rfl _ (fun _ => rfl) (fun _ => rfl) (by rfl) (by rw [size_tu, hT9]) hT1 ?_
  intro w6 ht6 hb6 hz6
  refine wpList_nil ?_
  have hx6 := blk_on hb6 hx5.out
  have ho6 := rowsP.below ho5.out hb6
  have hk6 := keptS_trans _ _ _ _ _ hk5.out (keptS_of_below (P := fun k => k = x ∨ ov.ownBlock = some k) hb6 (by omega))
  clear hb6 hx5 ho5 hk5 hc12 hrng
  have hob : ov.ownBlock = some gb := by rw [hvb.out]; rfl
  have hgbx : gb ≠ x := fun e => hvx.out (by rw [hob, e])
  replace hx6 := hide hx6
  replace ho6 := hide ho6
  replace hk6 := hide hk6
  replace ht6 := hide ht6
  replace hob := hide hob
  clear q1 q2
  by_cases e1 : k0 = 1
  case neg =>
    have t3 : ((k0 : Int) == 1) = false := by rw [beq_eq_false_iff_ne]; omega
    obtain ⟨U, hU⟩ : ∃ U, packetB p f 16 bs = U := ⟨_, rfl⟩
    have hD6 := hD.out 16 (by omega)
    rw [hU] at hD6
    obtain rfl : (U, a3, ts) = r := by rw [← hr.out, if_neg e1, hU]
    clear e1 hr
    replace hU := hide hU
    replace hD6 := hide hD6
    go_upto_region 23 with fail
    refine wp_region_X (KeptS w6.heap.size (fun k => k = x)) (by as_aux_lemma => kernel_rfl) ?_
    intro we hbe
    have hxe := blk_on hbe hx6.out
    have hte := blk_on hbe ht6.out
    have hoe := rowsP.below ho6.out hbe
    have hke := keptS_trans _ _ _ _ _ hk6.out (keptS_of_below (P := fun k => k = x ∨ ov.ownBlock = some k) hbe (by omega))
    have ze := hbe.size
    have hcL := fun (l : RelW (KeptS w6.heap.size (fun k => k = x)) we) (o : Nat) => blk_cell ((l.hk.block w5.heap.size (by omega) (by omega)).trans hte) o
    unfold flowP tuA at hcL
    refine wpX_seg (KeptS w6.heap.size (fun k => k = x)) 0 3 (fuel := 7) (by as_aux_lemma => kernel_rfl) (fun d _ _ _ _ h => by cases d <;> exact h) (by as_aux_lemma => kernel_rfl) (by as_aux_lemma => kernel_rfl) ?_
    simp only [List.drop_zero, List.take_succ_cons, List.take_zero]
    iterate 3 (refine wpQX_step (fun K hK => ?_); go_simp; refine hK _ ?_; clear hK K)
    refine wpQF_nil ?_
    clear hcL hte
    refine wpF_step 3 rfl (by as_aux_lemma => kernel_rfl) (fun K hK => ?_)
    go_simp
    go_at_call 50
    refine (hBy.out _ _ hxe).mono ?_
    rintro e w11 ⟨v11, rfl, hv11, hx11, g11⟩
    refine hK _ _ (Pkt.keptS_grown1 g11 ze rfl) ?_
    clear hK K
    have ho11 := rowsP.other hoe g11 hvx.out
    have hk11 := keptS_trans _ _ _ _ _ hke (keptS_grown (P := fun k => k = x ∨ ov.ownBlock = some k) g11 (by omega) (.inr (.inl rfl)))
    have z11 := g11.size
    clear g11 hxe hoe hke hbe
    replace hv11 := hide hv11
    replace hx11 := hide hx11
    replace ho11 := hide ho11
    replace hk11 := hide hk11
    refine wpF_step 4 rfl (by as_aux_lemma => kernel_rfl) (fun K hK => ?_)
    go_simp
    go_at_call 18
    refine (hD6.out _ _ _ hv11.out).mono ?_
    rintro e w12 ⟨v12, rfl, h12, -, hb12⟩
    refine hK _ _ (keptS_of_below hb12 (by omega)) ?_
    clear hK K
    have hv12 := (h12 rfl).weaken (base' := w.heap.size) (by omega)
    have hx12 := blk_on hb12 hx11.out
    have ho12 := rowsP.below ho11.out hb12
    have hk12 := keptS_trans _ _ _ _ _ hk11.out (keptS_of_below (P := fun k => k = x ∨ ov.ownBlock = some k) hb12 (by omega))
    clear h12 hb12 hv11 hx11 ho11 hk11
    replace hv12 := hide hv12
    replace hx12 := hide hx12
    replace ho12 := hide ho12
    replace hk12 := hide hk12
    refine wpX_seg (KeptS w6.heap.size (fun k => k = x)) 5 5 (fuel := 0) (by as_aux_lemma => kernel_rfl) (fun d _ _ _ _ h => by cases d <;> exact h) (by as_aux_lemma => kernel_rfl) (by as_aux_lemma => kernel_rfl) ?_
    simp only [List.drop_succ_cons, List.drop_zero, List.take_succ_cons, List.take_zero]
    iterate 5 (refine wpQX_step (fun K hK => ?_); go_simp; refine hK _ ?_; clear hK K)
    refine wpQF_nil ?_
    refine wpF_done (by as_aux_lemma => kernel_rfl) ?_ 0
    go_wp2_with fail
    go_ret
    exact ⟨_, _, rfl, hv12.out, hx12.out, ho12.out, fun k h => .inl h, hk12.out⟩
  have t3 : ((k0 : Int) == 1) = true := by rw [e1]; rfl
  obtain ⟨U, hU⟩ : ∃ U, packetB p f 17 bs = U := ⟨_, rfl⟩
  have hD6 := hD.out 17 (by omega)
  rw [hU] at hD6
  obtain rfl : (U, a3, ts.eraseIdx k) = r := by rw [← hr.out, if_pos e1, hU]
  clear e1 hr
  replace hU := hide hU
  replace hD6 := hide hD6
  go_upto_region 17 with fail
  go_wp2_with fail
  go_loopw [13, 14] (fun lv i wr => ∃ j : Nat, j ≤ ts.length ∧ i = .int .i64 (j : Int) ∧ OwnF wr w6.heap.size p lv ((ts.take j).eraseIdx k) ∧ KeptS w6.heap.size (fun _ => False) w6 wr) (fun _ i _ => ts.length - (intOf i).toNat)
  case atStart => exact ⟨0, Nat.zero_le _, rfl, rowsP_nil _ _ _ _, keptS_refl _ _ _⟩
  case round =>
    obtain ⟨j, hj, rfl, hlo, hkr⟩ := hrel
    have zr := hkr.size
    have hxr := (hkr.block x (by omega) id).trans hx6.out
    have htr := (hkr.block w5.heap.size hz6 id).trans ht6.out
    have hor : OwnF wr base p ov ts := rowsP.kept (row := none) ho6.out ⟨hkr.os, hkr.tape, hkr.output, hkr.size, fun i hi _ => hkr.block i hi id⟩ (by cases ov.ownBlock <;> simp)
    have hc12 := (blk_cell hxr 12).trans (show (plaA p a2 ov)[12]? = some ov from rfl)
    rw [hov.out] at hc12
    replace hlo := hide hlo
    replace hkr := hide hkr
    replace hxr := hide hxr
    replace htr := hide htr
    replace hor := hide hor
    by_cases hlt : j < ts.length
    · have q1 : (j : Int) < (ts.length : Int) := by omega
      have q2 : (0 : Int) ≤ (j : Int) := by omega
      by_cases hjk : j = k
      · have t4 : ((j : Int) != (k : Int)) = false := by rw [hjk]; simp
        rw [hjk] at hlo hj hlt q1 q2 t4 ⊢
        clear hxr htr hor hjk
        go_wp2_with fail
        clear hc12
        go_roundw
        case rel => exact ⟨k + 1, by omega, by go_num, by rw [erase_skip ts k n2]; exact hlo.out, hkr.out⟩
        case measure => simp [intOf]; omega
      · have t4 : ((j : Int) != (k : Int)) = true := by rw [bne_iff_ne]; omega
        obtain ⟨y, hy⟩ : ∃ y, ts[j]? = some y := ⟨ts[j], List.getElem?_eq_getElem hlt⟩
        obtain ⟨gb', cb', hvb', _, _, _, _, hrng⟩ := OwnF.row hor.out hy
        obtain rfl : gb = gb' := by have := hvb.out.symm.trans hvb'; cases this; rfl
        clear hvb'
        replace hrng := hide hrng
        replace hy := hide hy
        replace hjk := hide hjk
        go_upto_region 21 with fail
        apply wp_region_lit
        iterate 7 (refine wpList_plain rfl fun K hK => ?_; go_simp; refine hK _ _ ?_; clear hK K)
        clear hc12
        refine wpList_load_mid rfl 32 (.tmp 110) rfl gb (j * 9) rfl (cellsF p y) _ hrng.out Try.underlying32 rfl (by kernel_rfl) ?_
        rw [show (cellsF p y).toArray = #[.int .i64 p.pr, .bool p.v6, .int .u64 (srcHi p : Int), .int .u64 (srcLo p y.1 : Int), .bool p.v6, .int .u64 (p.hi : Int), .int .u64 (p.lo : Int), .int .i64 (y.2 : Int), .int .i64 p.vp] from rfl]
        dsimp only [Act.put]
        iterate 1 (refine wpList_plain rfl fun K hK => ?_; go_simp; refine hK _ _ ?_; clear hK K)
        obtain ⟨w8, hw8⟩ : ∃ w8, wr.alloc (.cells (flowP p y.1 y.2) 32) = w8 := ⟨_, rfl⟩
        have hb8 : Below wr.heap.size wr w8 := hw8 ▸ (Below.refl _ _).alloc (Nat.le_refl _) _
        have hn8 : w8.heap[wr.heap.size]? = some (.cells (flowP p y.1 y.2) 32 (0, 0)) := hw8 ▸ blk_new _ _ _
        change wpList _ _ _ _ _ (wr.alloc (.cells (flowP p y.1 y.2) 32))
        rw [hw8]
        have hlo8 := rowsP.below hlo.out hb8
        have hkr8 := keptS_trans _ _ _ _ _ hkr.out (keptS_of_below (P := fun _ => False) hb8 zr)
        have z8 := hb8.size
        have hel := erase_len ts k j
        clear hw8 hb8 hxr htr hor hrng
        refine wpList_plain rfl fun K hK => ?_
        refine wp_app_f (.tmp 104) (.tmp 112) rfl w6.heap.size p _ ((ts.take j).eraseIdx k) [y] rfl hlo8 ⟨wr.heap.size, 0, none⟩ 1 1 rfl rfl (lit_news hn8) (by rw [List.length_singleton]; omega) (by omega) fun v9 w9 h1 h2 h3 => hK _ _ ?_
        clear hK K hn8
        rw [← erase_next ts k j y hy.out hjk.out] at h1
        have hlt8 := rowsP.lt hlo8
        have hk9 := keptS_trans _ _ _ _ _ hkr8 (keptS_mono (P' := fun _ => False) (keptS_row h2 (S := w6.heap.size) (by omega)) (Nat.le_refl _) (fun i hi h => by have := (hlt8 i h).1; omega))
        clear h2 h3 hlo8 hkr8 hlt8 hlo hkr
        replace h1 := hide h1
        replace hk9 := hide hk9
        iterate 1 (refine wpList_plain rfl fun K hK => ?_; go_simp; refine hK _ _ ?_; clear hK K)
        refine wpList_nil ?_
        go_wp2_with fail
        go_roundw
        case rel => exact ⟨j + 1, by omega, by go_num, h1.out, hk9.out⟩
        case measure => simp [intOf]; omega
    · obtain rfl : j = ts.length := by omega
      have q1 : ¬ (ts.length : Int) < (ts.length : Int) := by omega
      rw [List.take_length] at hlo
      have hlo2 := hlo.out
      obtain ⟨A9, c9, hv9⟩ := OwnF.val hlo2
      rw [List.length_eraseIdx, if_pos n2] at hv9
      obtain ⟨n9, hn9⟩ : ∃ n, ts.length - 1 = n := ⟨_, rfl⟩
      rw [hn9] at hv9
      subst hv9
      have hlt9 := rowsP.lt hlo2
      have hf' := blk_free hxr.out 12
      obtain ⟨w10, e10, hx10, g10⟩ := store_cell hxr.out 12 (.slice A9 n9 c9)
      rw [plaA_open] at hx10
      have ht10 := grown_other g10 (blk_lt htr.out) (show w5.heap.size ≠ x by omega) htr.out
      have ho10 : OwnF w10 base p (.slice A9 n9 c9) (ts.eraseIdx k) := by
        have h := rowsP.other hlo2 g10 (fun e => by have := (hlt9 _ e).1; omega)
        exact ⟨h.1, h.2.imp id fun ⟨g, cap, cur, h1, h2, h3⟩ => ⟨g, cap, cur, h1, by omega, h3⟩⟩
      have hk10 := keptS_trans _ _ _ _ _ hk6.out (keptS_trans _ _ _ _ _ (keptS_mono (S' := w.heap.size) (P' := fun k => k = x ∨ ov.ownBlock = some k) hkr.out (by omega) (fun _ _ h => h.elim)) (keptS_grown (P := fun k => k = x ∨ ov.ownBlock = some k) g10 (by omega) (.inr (.inl rfl))))
      have hm10 : ∀ i, (Value.slice A9 n9 c9).ownBlock = some i → w6.heap.size ≤ i := fun i e => (hlt9 i e).1
      have z10 := g10.size
      clear g10 hlo2 hlo hkr hxr htr hor hlt9 hlt hj
      replace hx10 := hide hx10
      replace ht10 := hide ht10
      replace ho10 := hide ho10
      replace hk10 := hide hk10
      replace hm10 := hide hm10
      replace hn9 := hide hn9
      go_upto_region 23 with fail
      clear hc12 hf' e10
      refine wp_region_X (KeptS w10.heap.size (fun k => k = x)) (by as_aux_lemma => kernel_rfl) ?_
      intro we hbe
      have hxe := blk_on hbe hx10.out
      have hte := blk_on hbe ht10.out
      have hoe := rowsP.below ho10.out hbe
      have hke := keptS_trans _ _ _ _ _ hk10.out (keptS_of_below (P := fun k => k = x ∨ ov.ownBlock = some k) hbe (by omega))
      have ze := hbe.size
      have hcL := fun (l : RelW (KeptS w10.heap.size (fun k => k = x)) we) (o : Nat) => blk_cell ((l.hk.block w5.heap.size (by omega) (by omega)).trans hte) o
      unfold flowP tuA at hcL
      refine wpX_seg (KeptS w10.heap.size (fun k => k = x)) 0 3 (fuel := 7) (by as_aux_lemma => kernel_rfl) (fun d _ _ _ _ h => by cases d <;> exact h) (by as_aux_lemma => kernel_rfl) (by as_aux_lemma => kernel_rfl) ?_
      simp only [List.drop_zero, List.take_succ_cons, List.take_zero]
      iterate 3 (refine wpQX_step (fun K hK => ?_); go_simp; refine hK _ ?_; clear hK K)
      refine wpQF_nil ?_
      clear hcL hte
      refine wpF_step 3 rfl (by as_aux_lemma => kernel_rfl) (fun K hK => ?_)
      go_simp
      go_at_call 50
      refine (hBy.out _ _ hxe).mono ?_
      rintro e w11 ⟨v11, rfl, hv11, hx11, g11⟩
      refine hK _ _ (Pkt.keptS_grown1 g11 ze rfl) ?_
      clear hK K
      have ho11 := rowsP.other hoe g11 (fun e => by have := hm10.out _ e; omega)
      have hk11 := keptS_trans _ _ _ _ _ hke (keptS_grown (P := fun k => k = x ∨ ov.ownBlock = some k) g11 (by omega) (.inr (.inl rfl)))
      have z11 := g11.size
      clear g11 hxe hoe hke hbe
      replace hv11 := hide hv11
      replace hx11 := hide hx11
      replace ho11 := hide ho11
      replace hk11 := hide hk11
      refine wpF_step 4 rfl (by as_aux_lemma => kernel_rfl) (fun K hK => ?_)
      go_simp
      go_at_call 18
      refine (hD6.out _ _ _ hv11.out).mono ?_
      rintro e w12 ⟨v12, rfl, h12, -, hb12⟩
      refine hK _ _ (keptS_of_below hb12 (by omega)) ?_
      clear hK K
      have hv12 := (h12 rfl).weaken (base' := w.heap.size) (by omega)
      have hx12 := blk_on hb12 hx11.out
      have ho12 := rowsP.below ho11.out hb12
      have hk12 := keptS_trans _ _ _ _ _ hk11.out (keptS_of_below (P := fun k => k = x ∨ ov.ownBlock = some k) hb12 (by omega))
      clear h12 hb12 hv11 hx11 ho11 hk11
      have hmE : ∀ i, (Value.slice A9 n9 c9).ownBlock = some i → ov.ownBlock = some i ∨ w.heap.size ≤ i := fun i e => .inr (by have := hm10.out i e; omega)
      replace hv12 := hide hv12
      replace hx12 := hide hx12
      replace ho12 := hide ho12
      replace hk12 := hide hk12
      replace hmE := hide hmE
      refine wpX_seg (KeptS w10.heap.size (fun k => k = x)) 5 5 (fuel := 0) (by as_aux_lemma => kernel_rfl) (fun d _ _ _ _ h => by cases d <;> exact h) (by as_aux_lemma => kernel_rfl) (by as_aux_lemma => kernel_rfl) ?_
      simp only [List.drop_succ_cons, List.drop_zero, List.take_succ_cons, List.take_zero]
      iterate 5 (refine wpQX_step (fun K hK => ?_); go_simp; refine hK _ ?_; clear hK K)
      refine wpQF_nil ?_
      refine wpF_done (by as_aux_lemma => kernel_rfl) ?_ 0
      go_wp2_with fail
      go_ret
      exact ⟨_, _, rfl, hv12.out, hx12.out, ho12.out, hmE.out, hk12.out⟩
theorem lpacket_any (x a base : Nat) (p : PlanL) (ov : Value) (ts : List (Nat × Nat)) (hR : rightQ p) (hi : p.hi < 18446744073709551616) (lo : p.lo < 18446744073709551616) (hvx : ov.ownBlock ≠ some x) (hl : ts.length ≤ 256) (hts : ∀ x ∈ ts, x.1 ≤ 65535 ∧ x.2 ≤ 65535) (w : World) (hx : PlaAt w x p a ov) (ho : OwnF w base p ov ts) (hbase : base ≤ w.heap.size) :
    Calls Try.prog 25 #[.pointer (some ⟨x, 0, none⟩)] w fun e w' => LawEnd x p base ov (pktT p a ts) w w' e := by
  by_cases h17 : p.pr = 17
  · exact lnext_udp x a base p ov ts hR hi lo h17 hvx w hx ho
  have h6 : p.pr = 6 := by
    obtain ⟨_, _, _, _, _, _, _, r8, _⟩ := hR
    omega
  by_cases hnew : ts.length = 0 ∨ belN (mixN (stepN a)) 4 = 0 ∧ ts.length < 256
  · exact lnext_new x a base p ov ts hR hi lo h6 hvx hl hnew w hx ho hbase
  · exact lnext_go x a base p ov ts hR hi lo h6 hvx hl hts hnew w hx ho hbase
end Gen35
end Go.Proofs.Ytfmmmjaficbchaa
/- gen: traffic of a plan is made; what a packet of it is parsed as; how many connections are open. Conditions: numbers of 64 bits. -/
namespace Go.Proofs.Ytfmmmjaficbchaa
open Go.RowKit Go.ChangeShapes Go.WideShapes Go.ChangeAt Go.Deep
namespace Gen35
open Mix (mixN belN mixN_lt)
open Pkt (InEnd tuA tuA_one wrapB dgU sgU dgU_length sgU_length PIs pkA)
open Nat15 (turn_dg4 turn_dg6 turn_sg4 turn_sg6)
theorem new_no (p : PlanL) (hR : ¬ rightQ p) (w : World) : Calls Try.prog 20 #[.agg (plA p)] w fun e w' => e = .returned (.tuple #[.pointer none, .int .i64 1]) ∧ Below w.heap.size w w' := by
  have hRt := fun w => right_any p false (decide_eq_false hR) w
  unfold plA at hRt ⊢
  obtain ⟨w1, hw1⟩ : ∃ w1, w.alloc (.cells #[.int .u64 (p.key : Int), .int .i64 p.cl, .int .i64 p.po, .bool p.v6, .int .u64 (p.hi : Int), .int .u64 (p.lo : Int), .int .i64 p.pr, .int .i64 p.vp, .int .i64 p.co, .bool p.na, .int .i64 p.mo] 51) = w1 := ⟨_, rfl⟩
  have hB1 : Below w.heap.size w w1 := hw1 ▸ (Below.refl _ _).alloc (Nat.le_refl _) _
  have hc := blk_cell (hw1 ▸ blk_new w 51 #[.int .u64 (p.key : Int), .int .i64 p.cl, .int .i64 p.po, .bool p.v6, .int .u64 (p.hi : Int), .int .u64 (p.lo : Int), .int .i64 p.pr, .int .i64 p.vp, .int .i64 p.co, .bool p.na, .int .i64 p.mo])
  replace hRt := hide hRt
  replace hB1 := hide hB1
  go_enter Try.func20, Try.ntmps20
  go_upto_region 1 with fail
  clear hw1
  go_wp2_with fail
  clear hc
  refine (hRt.out _).mono ?_
  rintro e w2 ⟨rfl, hb2⟩
  have hB2 := hB1.out.trans (hb2.mono hB1.out.size)
  clear hb2
  replace hB2 := hide hB2
  go_wp2_with fail
  go_ret2
  exact ⟨rfl, hB2.out⟩
theorem new_ok (p : PlanL) (hR : rightQ p) (w : World) : Calls Try.prog 20 #[.agg (plA p)] w fun e w' => ∃ s g, e = .returned (.tuple #[.pointer (some ⟨s, 0, none⟩), .int .i64 0]) ∧ w.heap.size ≤ g ∧ w.heap.size ≤ s ∧ g ≠ s ∧ SrcAt w' s g p (.slice none 0 0) ∧ GenAt w' g p.key ∧ Below w.heap.size w w' := by
  have hRt := fun w => right_any p true (decide_eq_true hR) w
  unfold plA at hRt ⊢
  obtain ⟨w1, hw1⟩ : ∃ w1, w.alloc (.cells #[.int .u64 (p.key : Int), .int .i64 p.cl, .int .i64 p.po, .bool p.v6, .int .u64 (p.hi : Int), .int .u64 (p.lo : Int), .int .i64 p.pr, .int .i64 p.vp, .int .i64 p.co, .bool p.na, .int .i64 p.mo] 51) = w1 := ⟨_, rfl⟩
  have hB1 : Below w.heap.size w w1 := hw1 ▸ (Below.refl _ _).alloc (Nat.le_refl _) _
  have hb := hw1 ▸ blk_new w 51 #[.int .u64 (p.key : Int), .int .i64 p.cl, .int .i64 p.po, .bool p.v6, .int .u64 (p.hi : Int), .int .u64 (p.lo : Int), .int .i64 p.pr, .int .i64 p.vp, .int .i64 p.co, .bool p.na, .int .i64 p.mo]
  have hc := blk_cell hb
  replace hRt := hide hRt
  replace hB1 := hide hB1
  replace hb := hide hb
  go_enter Try.func20, Try.ntmps20
  go_upto_region 1 with fail
  clear hw1
  go_wp2_with fail
  clear hc
  refine (hRt.out _).mono ?_
  rintro e w2 ⟨rfl, hb2⟩
  have hB2 := hB1.out.trans (hb2.mono hB1.out.size)
  have hp2 := blk_on hb2 hb.out
  clear hb2 hb
  have zp := blk_lt hp2
  replace hB2 := hide hB2
  go_upto_region 3 with fail
  have zB := hB2.out.size
  refine wp_region_X (KeptS w2.heap.size (fun _ => False)) (by as_aux_lemma => kernel_rfl) ?_
  intro wd hbd
  have hpd := blk_on hbd hp2
  have zd := hbd.size
  have hcL := fun (l : RelW (KeptS w2.heap.size (fun _ => False)) wd) (o : Nat) => blk_cell ((l.hk.block w.heap.size zp id).trans hpd) o
  refine wpX_seg (KeptS w2.heap.size (fun _ => False)) 0 2 (fuel := 6) (by as_aux_lemma => kernel_rfl) (fun d _ _ _ _ h => by cases d <;> exact h) (by as_aux_lemma => kernel_rfl) (by as_aux_lemma => kernel_rfl) ?_
  simp only [List.drop_zero, List.take_succ_cons, List.take_zero]
  iterate 2 (refine wpQX_step (fun K hK => ?_); go_simp; refine hK _ ?_; clear hK K)
  refine wpQF_nil ?_
  refine wpX_seg (KeptS w2.heap.size (fun _ => False)) 3 1 (fuel := 5) (by as_aux_lemma => kernel_rfl) (fun d _ _ _ _ h => by cases d <;> exact h) (by as_aux_lemma => kernel_rfl) (by as_aux_lemma => kernel_rfl) ?_
  simp only [List.drop_succ_cons, List.drop_zero, List.take_succ_cons, List.take_zero]
  iterate 1 (refine wpQX_step (fun K hK => ?_); go_simp; refine hK _ ?_; clear hK K)
  refine wpQF_nil ?_
  clear hcL hpd hp2
  refine wpF_step 2 rfl (by as_aux_lemma => kernel_rfl) (fun K hK => ?_)
  go_simp
  go_at_call 45
  refine (newgen_any p.key _).mono ?_
  rintro e w3 ⟨g, rfl, hg1, hg2, hb3⟩
  refine hK _ _ (keptS_of_below hb3 zd) ?_
  clear hK K
  have hB3 := (hB2.out.trans (hbd.mono hB2.out.size)).trans (hb3.mono (by omega))
  clear hb3 hbd
  replace hB3 := hide hB3
  replace hg2 := hide hg2
  refine wpF_step 4 rfl (by as_aux_lemma => kernel_rfl) (fun K hK => ?_)
  go_simp
  refine hK _ _ (IsRel.refl _) ?_
  clear hK K
  refine wpF_step 5 rfl (by as_aux_lemma => kernel_rfl) (fun K hK => ?_)
  go_simp
  refine hK _ _ (keptS_of_below ((Below.refl _ _).alloc (Nat.le_refl _) _) (by have := hB3.out.size; have := blk_lt hg2.out; omega)) ?_
  clear hK K
  obtain ⟨w6, hw6⟩ : ∃ w6, w3.alloc (.cells (srcA g p (.slice none 0 0)) 66) = w6 := ⟨_, rfl⟩
  have hb6 : Below w3.heap.size w3 w6 := hw6 ▸ (Below.refl _ _).alloc (Nat.le_refl _) _
  have hs6 : SrcAt w6 w3.heap.size g p (.slice none 0 0) := hw6 ▸ blk_new _ _ _
  change wpF _ _ _ _ _ _ _ _ (w3.alloc (.cells (srcA g p (.slice none 0 0)) 66))
  rw [hw6]
  have hgl := blk_lt hg2.out
  have hg7 := blk_on hb6 hg2.out
  have z3 := hB3.out.size
  have hB7 := hB3.out.trans (hb6.mono z3)
  have hs7 := hs6
  clear hw6 hb6 hs6
  replace hs7 := hide hs7
  replace hg7 := hide hg7
  replace hB7 := hide hB7
  refine wpF_step 6 rfl (by as_aux_lemma => kernel_rfl) (fun K hK => ?_)
  go_simp
  refine hK _ _ (IsRel.refl _) ?_
  clear hK K
  refine wpF_step 7 rfl (by as_aux_lemma => kernel_rfl) (fun K hK => ?_)
  go_simp
  refine hK _ _ (IsRel.refl _) ?_
  clear hK K
  refine wpF_done (by as_aux_lemma => kernel_rfl) ?_ 0
  go_wp2_with fail
  go_ret2
  exact ⟨_, _, rfl, by omega, z3, by omega, hs7.out, hg7.out, hB7.out⟩
theorem open_any (s g : Nat) (p : PlanL) (A : Option Addr) (n c : Nat) (w : World) (hs : SrcAt w s g p (.slice A n c)) : Calls Try.prog 26 #[.pointer (some ⟨s, 0, none⟩)] w fun e w' => e = .returned (.int .i64 (n : Int)) ∧ w = w' := by
  have hc12 := (blk_cell hs 12).trans (show (srcA g p (.slice A n c))[12]? = some (.slice A n c) from rfl)
  replace hs := hide hs
  go_enter Try.func26, Try.ntmps26
  go_wp2_with fail
  refine (none_src s g p _ _ hs.out).mono ?_
  rintro e w2 ⟨rfl, rfl⟩
  go_wp2_with fail
  go_ret
  exact ⟨rfl, rfl⟩
/-- The flags that are told of a packet. -/
def flagsT (p : PlanL) (fl : Nat) : Nat := if p.pr = 17 then 0 else fl
theorem packet_pis (p : PlanL) (hR : rightQ p) (hi : p.hi < 18446744073709551616) (lo : p.lo < 18446744073709551616) (x : Nat × Nat) (h1 : x.1 ≤ 65535) (h2 : x.2 ≤ 65535) (fl : Nat) (hf : fl ≤ 255) (bs : List UInt8) (hl : bs.length ≤ 1400) :
    ∃ n, (packetB p x fl bs).length = n ∧ n ≤ 1500 ∧ PIs n (packetB p x fl bs) 0 (pkA p.v6 p.pr.toNat (srcHi p) (srcLo p x.1) p.hi p.lo (x.2 : Int) p.vp 64 (flagsT p fl : Int) (n : Int)) := by
  have h17 := made_of p hR x h1 h2 fl hf p.pr rfl
  obtain ⟨r1, r2, r3, r4, r5, r6, r7, r8, r9, r10⟩ := hR
  obtain ⟨_, _, _, _, _, _, _, _, _, _, h4⟩ := h17
  have hL := srcLo_lt p x.1 h1
  have hH := srcHi_lt p
  obtain ⟨v, hv⟩ : ∃ v : Nat, p.vp = (v : Int) := ⟨p.vp.toNat, by omega⟩
  unfold packetB flagsT
  rw [hv]
  cases hv6 : p.v6 with
  | false =>
    rw [hv6] at h4
    obtain ⟨e1, e2, e3, e4⟩ : (srcHi p : Int) = 0 ∧ (p.hi : Int) = 0 ∧ (srcLo p x.1 : Int) < 4294967296 ∧ (p.lo : Int) < 4294967296 := by
      rcases h4 with h | h
      · cases h
      · exact h
    rw [show srcHi p = 0 by omega, show p.hi = 0 by omega]
    rcases r8 with r8 | r8
    · rw [r8]
      have hT := turn_sg4 (srcLo p x.1) p.lo x.2 v fl 64 bs _ rfl (by omega) (by omega) (by omega) (by omega) (by omega) hf (by omega)
      exact ⟨_, hT.ok.len, by omega, hT.pis (by omega)⟩
    · rw [r8]
      have hT := turn_dg4 (srcLo p x.1) p.lo x.2 v 64 bs _ rfl (by omega) (by omega) (by omega) (by omega) (by omega) (by omega)
      exact ⟨_, hT.ok.len, by omega, hT.pis (by omega)⟩
  | true =>
    rcases r8 with r8 | r8
    · rw [r8]
      have hT := turn_sg6 (srcHi p) (srcLo p x.1) p.hi p.lo x.2 v fl 64 bs _ rfl hH (by omega) hi lo (by omega) (by omega) (by omega) hf (by omega)
      have hP := hT.pis (by omega)
      rw [sgU_length, show 40 + (20 + bs.length) = 60 + bs.length by omega] at hP
      exact ⟨_, hT.ok.len, by omega, hP⟩
    · rw [r8]
      have hT := turn_dg6 (srcHi p) (srcLo p x.1) p.hi p.lo x.2 v 64 bs _ rfl hH (by omega) hi lo (by omega) (by omega) (by omega) (by omega)
      have hP := hT.pis (by omega)
      rw [dgU_length, show 40 + (8 + bs.length) = 48 + bs.length by omega] at hP
      exact ⟨_, hT.ok.len, by omega, hP⟩
end Gen35
end Go.Proofs.Ytfmmmjaficbchaa
/- gen: the law's awake is true. No condition. -/
namespace Go.Proofs.Ytfmmmjaficbchaa
open Go.RowKit Go.ChangeShapes Go.WideShapes Go.ChangeAt Go.Deep
namespace Gen35
open Mix (mixN belN mixN_lt)
open Pkt (InEnd End2 pkZ pkG alloc_pk size_pk pkZ_size pkA pkA_one PIs)
def p0 : PlanL := ⟨0, 1, 1, false, 0, 0, 6, 0, 0, false, 0⟩
theorem p0_right : rightQ p0 := by decide
set_option maxRecDepth 20000 in
set_option maxHeartbeats 8000000 in
theorem awake_any (w : World) : Calls Try.prog 23 #[] w fun e w' => e = .returned (.bool true) ∧ Below w.heap.size w w' := by
  have hR := p0_right
  have hN := fun w => new_ok p0 p0_right w
  have hp6 : p0.pr = 6 := rfl
  have hph : p0.hi < 18446744073709551616 := by decide
  have hpl : p0.lo < 18446744073709551616 := by decide
  unfold plA at hN
  have hN2 : ∀ w, Calls Try.prog 20 #[.agg #[.int .u64 0, .int .i64 1, .int .i64 1, .bool false, .int .u64 0, .int .u64 0, .int .i64 6, .int .i64 0, .int .i64 0, .bool false, .int .i64 0]] w fun e w' => ∃ s g, e = .returned (.tuple #[.pointer (some ⟨s, 0, none⟩), .int .i64 0]) ∧ w.heap.size ≤ g ∧ w.heap.size ≤ s ∧ g ≠ s ∧ SrcAt w' s g p0 (.slice none 0 0) ∧ GenAt w' g p0.key ∧ Below w.heap.size w w' := hN
  clear hN
  have hm0 : (0 : Int) ≤ p0.mo ∧ p0.mo ≤ 1400 := by decide
  generalize p0 = p at hR hN2 hp6 hph hpl hm0
  obtain ⟨x, hx⟩ : ∃ x, flowN p (stepN p.key) = x := ⟨_, rfl⟩
  obtain ⟨x1, x2⟩ := flowN_le p (stepN p.key) hR
  rw [hx] at x1 x2
  obtain ⟨bs, hbs⟩ : ∃ bs, bytesT p (stepN (stepN (stepN p.key))) = bs := ⟨_, rfl⟩
  have hbl := bytesT_length p (stepN (stepN (stepN p.key))) hm0.1 hm0.2
  rw [hbs] at hbl
  obtain ⟨n, hUl, hn, hP⟩ := packet_pis p hR hph hpl x x1 x2 2 (by omega) bs hbl
  obtain ⟨U, hU⟩ : ∃ U, packetB p x 2 bs = U := ⟨_, rfl⟩
  obtain ⟨a2, ha2⟩ : ∃ a2, bytesS p (stepN (stepN (stepN p.key))) = a2 := ⟨_, rfl⟩
  have hr : pktT p p.key [] = (U, a2, [x]) := by
    unfold pktT
    rw [if_neg (by omega), if_pos (.inl rfl), hx, hbs, hU, ha2]
    rfl
  rw [hU] at hUl hP
  rw [show flagsT p 2 = 2 by unfold flagsT; rw [if_neg (by omega)]] at hP
  obtain ⟨y, hy⟩ : ∃ y, pkA p.v6 p.pr.toNat (srcHi p) (srcLo p x.1) p.hi p.lo (x.2 : Int) p.vp 64 ((2 : Nat) : Int) (n : Int) = y := ⟨_, rfl⟩
  have hOp := fun w => Pkt.opens_any (v6 := p.v6) (pr := (p.pr.toNat : Int)) (sv := p.v6) (shi := (srcHi p : Int)) (slo := (srcLo p x.1 : Int)) (dv := p.v6) (dhi := (p.hi : Int)) (dlo := (p.lo : Int)) (sp := (x.2 : Int)) (dp := p.vp) (ttl := 64) (fl := 2) (er := false) (apr := 0) (asv := false) (ashi := 0) (aslo := 0) (adv := false) (adhi := 0) (adlo := 0) (asp := 0) (adp := 0) (sz := (n : Int)) (by omega) w
  have hOp2 : ∀ w, Calls Try.prog 46 #[.agg y] w fun e w' => e = .returned (.bool true) ∧ Below w.heap.size w w' := fun w => by
    have h := hOp w
    rw [show Pkt.opB (p.pr.toNat : Int) 2 = true by rw [hp6]; decide] at h
    rw [← hy]
    exact h
  rw [hy] at hP
  have hys : y.size = 23 := hy ▸ rfl
  have hyo : y.all (·.oneCell') = true := hy ▸ pkA_one _ _ _ _ _ _ _ _ _ _ _
  have hB := Below.refl w.heap.size w
  clear hOp hy hbs hU ha2 hx
  replace hR := hide hR
  replace hN2 := hide hN2
  replace hP := hide hP
  replace hr := hide hr
  replace hUl := hide hUl
  replace hOp2 := hide hOp2
  replace hys := hide hys
  replace hyo := hide hyo
  replace hB := hide hB
  replace hp6 := hide hp6
  go_enter Try.func23, Try.ntmps23
  go_wp2_with fail
  refine (hN2.out _).mono ?_
  rintro e w1 ⟨s, g, rfl, zg, zs, hne, hs, hg, hb1⟩
  have hB1 := hB.out.trans (hb1.mono hB.out.size)
  clear hb1
  replace hs := hide hs
  replace hg := hide hg
  replace hB1 := hide hB1
  go_upto_region 2 with fail
  apply wp_region_lit
  iterate 1 (refine wpList_plain rfl fun K hK => ?_; go_simp; refine hK _ _ ?_; clear hK K)
  refine wpList_plain rfl fun K hK => ?_
  go_simp
  refine (Packet_any s g p.key w1.heap.size p (.slice none 0 0) [] hR.out hph hpl hne (by simp [Value.ownBlock]) (by simp [Value.ownBlock]) (by simp) (by simp) _ hs.out hg.out (rowsP_nil _ _ _ _) (Nat.le_refl _)).mono ?_
  rintro e w2 ⟨v2, ov, rfl, hv2, hs2, hg2, ho2, -, hk2⟩
  rw [hr.out] at hv2 hg2 ho2
  obtain ⟨A2, c2, rfl, hc2, hm2, hi2⟩ := hv2.form
  replace hUl := hUl.out
  dsimp only at hi2 hc2 ho2
  rw [hUl] at hi2 hc2
  obtain ⟨AO, cO, rfl⟩ := OwnF.val ho2
  have hB2 : Below w.heap.size w w2 := ⟨hk2.os.trans hB1.out.os, hk2.tape.trans hB1.out.tape, hk2.output.trans hB1.out.output, Nat.le_trans hB1.out.size hk2.size, fun k hk => (hk2.block k (by have := hB1.out.size; omega) (by rintro (h | h | h); omega; omega; cases h)).trans (hB1.out.block k hk)⟩
  clear hv2 hg2 ho2 hk2
  replace hi2 := hide hi2
  replace hs2 := hide hs2
  replace hB2 := hide hB2
  dsimp only
  rw [hUl]
  go_simp
  refine hK _ _ ?_
  clear hK K
  refine wpList_plain rfl fun K hK => ?_
  go_simp
  refine (hP.out _ c2 _ hi2.out hc2 hm2).mono ?_
  rintro e w3 hE
  obtain ⟨rfl, hb3⟩ := hE
  rw [if_pos rfl]
  have hs3 := blk_on hb3 hs2.out
  have hB3 := hB2.out.trans (hb3.mono hB2.out.size)
  clear hb3 hi2 hs2 hB2
  replace hs3 := hide hs3
  replace hB3 := hide hB3
  go_simp
  refine hK _ _ ?_
  clear hK K
  iterate 3 (refine wpList_plain rfl fun K hK => ?_; go_simp; refine hK _ _ ?_; clear hK K)
  refine wpl_new rfl rfl 34 _ (alloc_pk _ rfl) 3 rfl (.tmp 15) rfl _ (fun _ => rfl) (fun _ => rfl) (by rw [pkZ_size]; exact hys.out) (by rw [size_pk, hys.out]) hyo.out ?_
  intro w4 hg4 hb4 hz4
  have hs4 := blk_on hb4 hs3.out
  have hB4 := hB3.out.trans (hb4.mono hB3.out.size)
  clear hb4 hs3 hB3
  replace hs4 := hide hs4
  replace hB4 := hide hB4
  replace hg4 := hide hg4
  iterate 1 (refine wpList_plain rfl fun K hK => ?_; go_simp; refine hK _ _ ?_; clear hK K)
  refine wpList_nil ?_
  go_upto_region 3 with fail
  apply wp_region_lit
  iterate 3 (refine wpList_plain rfl fun K hK => ?_; go_simp; refine hK _ _ ?_; clear hK K)
  iterate 2 (refine wpList_step fun K hK => ?_; go_simp; refine hK _ _ ?_; clear hK K)
  iterate 2 (refine wpList_plain rfl fun K hK => ?_; go_simp; refine hK _ _ ?_; clear hK K)
  refine wpl_val (.agg y) rfl (run_ldw w4 _ 34 (.tmp 3) rfl w3.heap.size rfl y _ hg4.out Try.underlying34 rfl (by rw [size_pk, hys.out])) ?_
  dsimp only [Act.put]
  refine wpList_step fun K hK => ?_
  go_simp
  refine (hOp2.out _).mono ?_
  rintro e w5 ⟨rfl, hb5⟩
  go_simp
  refine hK _ _ ?_
  clear hK K
  have hs5 := blk_on hb5 hs4.out
  have hB5 := hB4.out.trans (hb5.mono hB4.out.size)
  clear hb5 hs4 hB4 hg4
  replace hs5 := hide hs5
  replace hB5 := hide hB5
  iterate 2 (refine wpList_plain rfl fun K hK => ?_; go_simp; refine hK _ _ ?_; clear hK K)
  iterate 1 (refine wpList_step fun K hK => ?_; go_simp; refine hK _ _ ?_; clear hK K)
  refine wpList_step fun K hK => ?_
  go_simp
  refine (open_any s g p _ _ _ _ hs5.out).mono ?_
  rintro e w6 ⟨rfl, rfl⟩
  go_simp
  refine hK _ _ ?_
  clear hK K
  iterate 1 (refine wpList_step fun K hK => ?_; go_simp; refine hK _ _ ?_; clear hK K)
  iterate 4 (refine wpList_plain rfl fun K hK => ?_; go_simp; refine hK _ _ ?_; clear hK K)
  refine wpList_nil ?_
  go_wp2_with fail
  go_ret
  exact ⟨by rfl, hB5.out⟩
end Gen35
end Go.Proofs.Ytfmmmjaficbchaa
