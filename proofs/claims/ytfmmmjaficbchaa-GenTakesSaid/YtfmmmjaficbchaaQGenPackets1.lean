/- The statement GenPackets, walked. Conditions: numbers of 64 bits. -/
import Derived.Test.YtfmmmjaficbchaaQGenFlows5
namespace Go.Proofs.Ytfmmmjaficbchaa
open Go.RowKit Go.ChangeShapes Go.WideShapes Go.ChangeAt Go.Deep
namespace Gen35
open Pkt (InEnd End2 tuA tuA_one size_tu pkZ pkG alloc_pk size_pk pkZ_size pkA pkA_one PIs)
theorem packets_no (p : PlanL) (n : Int) (hR : ¬ rightQ p) (w : World) : Calls Try.prog 7 #[.agg (plA p), .int .i64 n] w fun e w' => e = .returned (.bool true) ∧ Below w.heap.size w w' := by
  have hN := fun w => new_no p hR w
  have hR1 := fun w => right_any p false (decide_eq_false hR) w
  have hR2 := fun w => lright_any p false (decide_eq_false hR) w
  unfold plA at hN hR1 hR2 ⊢
  obtain ⟨w1, hw1⟩ : ∃ w1, w.alloc (.cells #[.int .u64 (p.key : Int), .int .i64 p.cl, .int .i64 p.po, .bool p.v6, .int .u64 (p.hi : Int), .int .u64 (p.lo : Int), .int .i64 p.pr, .int .i64 p.vp, .int .i64 p.co, .bool p.na, .int .i64 p.mo] 51) = w1 := ⟨_, rfl⟩
  have hB : Below w.heap.size w w1 := hw1 ▸ (Below.refl _ _).alloc (Nat.le_refl _) _
  have hb := hw1 ▸ blk_new w 51 #[.int .u64 (p.key : Int), .int .i64 p.cl, .int .i64 p.po, .bool p.v6, .int .u64 (p.hi : Int), .int .u64 (p.lo : Int), .int .i64 p.pr, .int .i64 p.vp, .int .i64 p.co, .bool p.na, .int .i64 p.mo]
  have hc := blk_cell hb
  replace hN := hide hN
  replace hB := hide hB
  replace hb := hide hb
  replace hR1 := hide hR1
  replace hR2 := hide hR2
  go_enter Try.func7, Try.ntmps7
  go_upto_region 1 with fail
  clear hw1
  go_wp2_with fail
  clear hc
  refine (hN.out _).mono ?_
  rintro e w2 ⟨rfl, hb2⟩
  have hbb := blk_on hb2 hb.out
  replace hB := hide (hB.out.trans (hb2.mono hB.out.size))
  clear hb2 hb
  have zb := blk_lt hbb
  go_upto_region 2 with fail
  have hcl := fun (l : Later w2) (o : Nat) => blk_cell (blk_below l.hb zb hbb) o
  refine wp_region_L (by as_aux_lemma => kernel_rfl) ?_
  refine wpE_seg 0 5 (fuel := 0) (by as_aux_lemma => kernel_rfl) (fun d _ _ _ _ h => by cases d <;> exact h) (by as_aux_lemma => kernel_rfl) (by as_aux_lemma => kernel_rfl) ?_
  simp only [List.drop_zero, List.take_succ_cons, List.take_zero]
  iterate 1 (refine wpQE_step (fun K hK => ?_); go_simp; refine hK _ ?_; clear hK K)
  (refine wpQE_step (fun K hK => ?_); go_simp; apply Exists.intro; refine ⟨fun l => ?_, hK _ ?_⟩; (go_at_call 21; refine (hR1.out l.w).mono ?_; rintro e w' ⟨rfl, hb⟩; exact ⟨rfl, hb⟩); clear hK K)
  iterate 1 (refine wpQE_step (fun K hK => ?_); go_simp; refine hK _ ?_; clear hK K)
  (refine wpQE_step (fun K hK => ?_); go_simp; apply Exists.intro; refine ⟨fun l => ?_, hK _ ?_⟩; (go_at_call 22; refine (hR2.out l.w).mono ?_; rintro e w' ⟨rfl, hb⟩; exact ⟨rfl, hb⟩); clear hK K)
  iterate 1 (refine wpQE_step (fun K hK => ?_); go_simp; refine hK _ ?_; clear hK K)
  refine wpQE_nil ?_
  clear hcl
  refine wpE_done (by as_aux_lemma => kernel_rfl) (fun w3 hb3 => ?_) 0
  have hb4 := blk_on hb3 hbb
  replace hB := hide (hB.out.trans (hb3.mono hB.out.size))
  clear hb3 hbb
  have hc := blk_cell hb4
  replace hb4 := hide hb4
  go_wp2_with fail
  clear hc
  refine (hR2.out _).mono ?_
  rintro e w5 ⟨rfl, hb5⟩
  replace hB := hide (hB.out.trans (hb5.mono hB.out.size))
  clear hb5 hb4
  go_wp2_with fail
  refine (awake_any _).mono ?_
  rintro e w6 ⟨rfl, hb6⟩
  replace hB := hide (hB.out.trans (hb6.mono hB.out.size))
  clear hb6
  go_wp2_with fail
  go_ret
  exact ⟨by rfl, hB.out⟩
set_option maxRecDepth 20000 in
set_option maxHeartbeats 8000000 in
theorem packets_big (p : PlanL) (n : Int) (hR : rightQ p) (hm : (100 : Int) < p.mo) (w : World) : Calls Try.prog 7 #[.agg (plA p), .int .i64 n] w fun e w' => e = .returned (.bool true) ∧ Below w.heap.size w w' := by
  have hN := fun w => new_ok p hR w
  have hR1 := fun w => right_any p true (decide_eq_true hR) w
  have hR2 := fun w => lright_any p true (decide_eq_true hR) w
  unfold plA at hN hR1 hR2 ⊢
  obtain ⟨w1, hw1⟩ : ∃ w1, w.alloc (.cells #[.int .u64 (p.key : Int), .int .i64 p.cl, .int .i64 p.po, .bool p.v6, .int .u64 (p.hi : Int), .int .u64 (p.lo : Int), .int .i64 p.pr, .int .i64 p.vp, .int .i64 p.co, .bool p.na, .int .i64 p.mo] 51) = w1 := ⟨_, rfl⟩
  have hB : Below w.heap.size w w1 := hw1 ▸ (Below.refl _ _).alloc (Nat.le_refl _) _
  have hb := hw1 ▸ blk_new w 51 #[.int .u64 (p.key : Int), .int .i64 p.cl, .int .i64 p.po, .bool p.v6, .int .u64 (p.hi : Int), .int .u64 (p.lo : Int), .int .i64 p.pr, .int .i64 p.vp, .int .i64 p.co, .bool p.na, .int .i64 p.mo]
  have hc := blk_cell hb
  have z1 := hB.size
  have zb0 := blk_lt hb
  replace hN := hide hN
  replace hB := hide hB
  replace hb := hide hb
  replace hR1 := hide hR1
  replace hR2 := hide hR2
  replace hR := hide hR
  go_enter Try.func7, Try.ntmps7
  go_upto_region 1 with fail
  clear hw1
  go_wp2_with fail
  clear hc
  refine (hN.out _).mono ?_
  rintro e w2 ⟨s, g, rfl, zg, zs, hne, hs, hg, hb2⟩
  have hbb := blk_on hb2 hb.out
  replace hB := hide (hB.out.trans (hb2.mono hB.out.size))
  clear hb2 hb
  have zb := blk_lt hbb
  replace hs := hide hs
  replace hg := hide hg
  go_upto_region 2 with fail
  have hcl := fun (l : Later w2) (o : Nat) => blk_cell (blk_below l.hb zb hbb) o
  refine wp_region_L (by as_aux_lemma => kernel_rfl) ?_
  refine wpE_seg 0 5 (fuel := 0) (by as_aux_lemma => kernel_rfl) (fun d _ _ _ _ h => by cases d <;> exact h) (by as_aux_lemma => kernel_rfl) (by as_aux_lemma => kernel_rfl) ?_
  simp only [List.drop_zero, List.take_succ_cons, List.take_zero]
  iterate 1 (refine wpQE_step (fun K hK => ?_); go_simp; refine hK _ ?_; clear hK K)
  (refine wpQE_step (fun K hK => ?_); go_simp; apply Exists.intro; refine ⟨fun l => ?_, hK _ ?_⟩; (go_at_call 21; refine (hR1.out l.w).mono ?_; rintro e w' ⟨rfl, hb⟩; exact ⟨rfl, hb⟩); clear hK K)
  iterate 1 (refine wpQE_step (fun K hK => ?_); go_simp; refine hK _ ?_; clear hK K)
  (refine wpQE_step (fun K hK => ?_); go_simp; apply Exists.intro; refine ⟨fun l => ?_, hK _ ?_⟩; (go_at_call 22; refine (hR2.out l.w).mono ?_; rintro e w' ⟨rfl, hb⟩; exact ⟨rfl, hb⟩); clear hK K)
  iterate 1 (refine wpQE_step (fun K hK => ?_); go_simp; refine hK _ ?_; clear hK K)
  refine wpQE_nil ?_
  clear hcl
  refine wpE_done (by as_aux_lemma => kernel_rfl) (fun w3 hb3 => ?_) 0
  have hb4 := blk_on hb3 hbb
  replace hs := hide (blk_on hb3 hs.out)
  replace hg := hide (blk_on hb3 hg.out)
  replace hB := hide (hB.out.trans (hb3.mono hB.out.size))
  clear hb3 hbb
  have hc := blk_cell hb4
  replace hb4 := hide hb4
  go_wp2_with fail
  clear hc
  refine (hR2.out _).mono ?_
  rintro e w5 ⟨rfl, hb5⟩
  have hb6 := blk_on hb5 hb4.out
  replace hs := hide (blk_on hb5 hs.out)
  replace hg := hide (blk_on hb5 hg.out)
  replace hB := hide (hB.out.trans (hb5.mono hB.out.size))
  clear hb5 hb4
  have hc := blk_cell hb6
  replace hb6 := hide hb6
  go_wp2_with fail
  clear hc
  refine (awake_any _).mono ?_
  rintro e w6 ⟨rfl, hb6⟩
  replace hB := hide (hB.out.trans (hb6.mono hB.out.size))
  clear hb6
  go_wp2_with fail
  go_ret
  exact ⟨by rfl, hB.out⟩
/-- The traffic and the document's, apart from each other. -/
structure GInv (w : World) (p : PlanL) (s g x B a1 : Nat) (ts1 : List (Nat × Nat)) (ov : Value) (a2 : Nat) (ts2 : List (Nat × Nat)) (lv : Value) : Prop where
  hs : SrcAt w s g p ov
  hg : GenAt w g a1
  ho : OwnF w B p ov ts1
  hx : PlaAt w x p a2 lv
  hl : OwnF w B p lv ts2
  o1 : ∀ k, ov.ownBlock = some k → k ≠ g ∧ k ≠ s ∧ k ≠ x
  l1 : ∀ k, lv.ownBlock = some k → k ≠ g ∧ k ≠ s ∧ k ≠ x
  d : ∀ k, ov.ownBlock = some k → lv.ownBlock ≠ some k
theorem rowsP.keptS {S : Nat} {P : Nat → Prop} {w w' : World} {base : Nat} {e : TypeId} {size n : Nat} {v : Value} {xs : List Value} (h : rowsP w base e size v n xs) (hk : KeptS S P w w') (hS : w.heap.size ≤ S) (hP : ∀ k, v.ownBlock = some k → ¬ P k) : rowsP w' base e size v n xs := by
  refine ⟨h.1, h.2.imp id ?_⟩
  rintro ⟨g, cap, cur, rfl, h2, h3, h4⟩
  have := blk_lt h3
  exact ⟨g, cap, cur, rfl, h2, (hk.block g (by omega) (hP g rfl)).trans h3, h4⟩
theorem GInv.src {w w' : World} {p : PlanL} {s g x B a1 a2 : Nat} {ts1 ts2 : List (Nat × Nat)} {ov lv : Value} {r : List UInt8 × Nat × List (Nat × Nat)} {e : Ending} (h : GInv w p s g x B a1 ts1 ov a2 ts2 lv) (hxg : x ≠ g) (hxs : x ≠ s) (he : SrcEnd s g p B ov r w w' e) :
    ∃ v ov', e = .returned v ∧ OwnB w' w.heap.size v r.1 ∧ GInv w' p s g x B r.2.1 r.2.2 ov' a2 ts2 lv ∧ KeptS w.heap.size (fun k => k = g ∨ k = s ∨ ov.ownBlock = some k) w w' := by
  obtain ⟨v, ov', rfl, h1, h2, h3, h4, h5, h6⟩ := he
  have zs := blk_lt h.hs
  have zg := blk_lt h.hg
  have zx := blk_lt h.hx
  have hm : ∀ k, ov'.ownBlock = some k → ov.ownBlock = some k ∨ w.heap.size ≤ k := fun k hk => by
    rcases h5 with h5 | ⟨j, h5, hj⟩
    · exact .inl (h5 ▸ hk)
    · rw [hk] at h5; cases h5; exact .inr hj
  refine ⟨v, ov', rfl, h1, ⟨h2, h3, h4, (h6.block x zx (by rintro (h' | h' | h'); exact hxg h'; exact hxs h'; exact (h.o1 x h').2.2 rfl)).trans h.hx, rowsP.keptS h.hl h6 (Nat.le_refl _) (fun k hk => by rintro (h' | h' | h'); exact (h.l1 k hk).1 h'; exact (h.l1 k hk).2.1 h'; exact h.d k h' hk), ?_, h.l1, ?_⟩, h6⟩
  · intro k hk
    rcases hm k hk with h' | h'
    · exact h.o1 k h'
    · omega
  · intro k hk hl
    rcases hm k hk with h' | h'
    · exact h.d k h' hl
    · have := (rowsP.lt h.hl k hl).2
      omega
theorem GInv.law {w w' : World} {p : PlanL} {s g x B a1 a2 : Nat} {ts1 ts2 : List (Nat × Nat)} {ov lv : Value} {r : List UInt8 × Nat × List (Nat × Nat)} {e : Ending} (h : GInv w p s g x B a1 ts1 ov a2 ts2 lv) (hxg : x ≠ g) (hxs : x ≠ s) (he : LawEnd x p B lv r w w' e) :
    ∃ v lv', e = .returned v ∧ OwnB w' w.heap.size v r.1 ∧ GInv w' p s g x B a1 ts1 ov r.2.1 r.2.2 lv' ∧ KeptS w.heap.size (fun k => k = x ∨ lv.ownBlock = some k) w w' := by
  obtain ⟨v, lv', rfl, h1, h2, h4, h5, h6⟩ := he
  have zs := blk_lt h.hs
  have zg := blk_lt h.hg
  have zx := blk_lt h.hx
  refine ⟨v, lv', rfl, h1, ⟨(h6.block s zs (by rintro (h' | h'); exact hxs h'.symm; exact (h.l1 s h').2.1 rfl)).trans h.hs, (h6.block g zg (by rintro (h' | h'); exact hxg h'.symm; exact (h.l1 g h').1 rfl)).trans h.hg, rowsP.keptS h.ho h6 (Nat.le_refl _) (fun k hk => by rintro (h' | h'); exact (h.o1 k hk).2.2 h'; exact h.d k hk h'), h2, h4, h.o1, ?_, ?_⟩, h6⟩
  · intro k hk
    rcases h5 k hk with h' | h'
    · exact h.l1 k h'
    · omega
  · intro k hk hl
    rcases h5 k hl with h' | h'
    · exact h.d k hk h'
    · have := (rowsP.lt h.ho k hk).2
      omega
theorem GInv.below {w w' : World} {p : PlanL} {s g x B a1 a2 : Nat} {ts1 ts2 : List (Nat × Nat)} {ov lv : Value} (h : GInv w p s g x B a1 ts1 ov a2 ts2 lv) (hb : Below w.heap.size w w') : GInv w' p s g x B a1 ts1 ov a2 ts2 lv :=
  ⟨blk_on hb h.hs, blk_on hb h.hg, rowsP.below h.ho hb, blk_on hb h.hx, rowsP.below h.hl hb, h.o1, h.l1, h.d⟩
theorem below_of_kept {S B : Nat} {P : Nat → Prop} {a b : World} (h : KeptS S P a b) (hS : B ≤ S) (hP : ∀ k, P k → B ≤ k) : Below B a b :=
  ⟨h.os, h.tape, h.output, h.size, fun k hk => h.block k (by omega) (fun hp => by have := hP k hp; omega)⟩
theorem pktT_inv (p : PlanL) (hR : rightQ p) (a : Nat) (ts : List (Nat × Nat)) (hl : ts.length ≤ 256) (hts : ∀ x ∈ ts, x.1 ≤ 65535 ∧ x.2 ≤ 65535) : (pktT p a ts).2.2.length ≤ 256 ∧ ∀ x ∈ (pktT p a ts).2.2, x.1 ≤ 65535 ∧ x.2 ≤ 65535 := by
  unfold pktT
  split
  · exact ⟨hl, hts⟩
  split
  · rename_i h
    refine ⟨?_, ?_⟩
    · show (ts ++ [flowN p (stepN a)]).length ≤ 256
      rw [List.length_append, List.length_singleton]
      omega
    · intro x hx
      rcases List.mem_append.1 hx with h | h
      · exact hts x h
      · rw [List.mem_singleton.1 h]
        exact flowN_le p _ hR
  split
  · refine ⟨?_, ?_⟩
    · have := List.length_eraseIdx_le ts (Mix.belN (Mix.mixN (stepN (stepN a))) ts.length)
      show (ts.eraseIdx _).length ≤ 256
      omega
    · intro x hx
      exact hts x (List.mem_of_mem_eraseIdx hx)
  · exact ⟨hl, hts⟩
/-- What the next packet is parsed as. -/
theorem pktT_pis (p : PlanL) (hR : rightQ p) (hi : p.hi < 18446744073709551616) (lo : p.lo < 18446744073709551616) (a : Nat) (ts : List (Nat × Nat)) (hts : ∀ x ∈ ts, x.1 ≤ 65535 ∧ x.2 ≤ 65535) :
    ∃ n slo sp fl : Nat, (pktT p a ts).1.length = n ∧ n ≤ 1500 ∧ PIs n (pktT p a ts).1 0 (pkA p.v6 p.pr.toNat (srcHi p) slo p.hi p.lo (sp : Int) p.vp 64 (fl : Int) (n : Int)) := by
  have hm0 : (0 : Int) ≤ p.mo ∧ p.mo ≤ 1400 := ⟨hR.2.2.2.2.1, hR.2.2.2.2.2.1⟩
  have hg : ∀ k, (ts.getD k (0, 0)).1 ≤ 65535 ∧ (ts.getD k (0, 0)).2 ≤ 65535 := fun k => by
    rw [List.getD_eq_getElem?_getD]
    cases hk : ts[k]? with
    | none => exact ⟨Nat.zero_le _, Nat.zero_le _⟩
    | some x => exact hts x (List.mem_of_getElem? hk)
  unfold pktT
  split
  · obtain ⟨x1, x2⟩ := flowN_le p a hR
    obtain ⟨n, h1, h2, h3⟩ := packet_pis p hR hi lo _ x1 x2 0 (by omega) _ (bytesT_length p (stepN (stepN a)) hm0.1 hm0.2)
    exact ⟨n, _, _, _, h1, h2, h3⟩
  split
  · obtain ⟨x1, x2⟩ := flowN_le p (stepN a) hR
    obtain ⟨n, h1, h2, h3⟩ := packet_pis p hR hi lo _ x1 x2 2 (by omega) _ (bytesT_length p (stepN (stepN (stepN a))) hm0.1 hm0.2)
    exact ⟨n, _, _, _, h1, h2, h3⟩
  split
  · obtain ⟨x1, x2⟩ := hg (Mix.belN (Mix.mixN (stepN (stepN a))) ts.length)
    obtain ⟨n, h1, h2, h3⟩ := packet_pis p hR hi lo _ x1 x2 17 (by omega) _ (bytesT_length p (stepN (stepN a)) hm0.1 hm0.2)
    exact ⟨n, _, _, _, h1, h2, h3⟩
  · obtain ⟨x1, x2⟩ := hg (Mix.belN (Mix.mixN (stepN (stepN a))) ts.length)
    obtain ⟨n, h1, h2, h3⟩ := packet_pis p hR hi lo _ x1 x2 16 (by omega) _ (bytesT_length p (stepN (stepN a)) hm0.1 hm0.2)
    exact ⟨n, _, _, _, h1, h2, h3⟩
theorem OwnB.keptS {S : Nat} {P : Nat → Prop} {w w' : World} {base : Nat} {v : Value} {xs : List UInt8} (h : OwnB w base v xs) (hk : KeptS S P w w') (hS : w.heap.size ≤ S) (hP : ∀ k, v.ownBlock = some k → ¬ P k) : OwnB w' base v xs := by
  refine ⟨h.1, h.2.imp id ?_⟩
  rintro ⟨g, cap, cur, rfl, h2, h3, h4⟩
  have := blk_lt h3
  exact ⟨g, cap, cur, rfl, h2, (hk.block g (by omega) (hP g rfl)).trans h3, h4⟩
theorem isB_of_block {w w' : World} {B n b off : Nat} {xs : List UInt8} (h : IsB w B (some ⟨b, off, none⟩) n xs) (hb : w'.heap[b]? = w.heap[b]?) : IsB w' B (some ⟨b, off, none⟩) n xs := by
  refine ⟨h.1, fun hn => ?_⟩
  obtain ⟨b', off', e, h1, h2⟩ := h.2 hn
  cases e
  exact ⟨b, off, rfl, h1, fun i hi => (World.cell?_of_block hb).trans (h2 i hi)⟩
set_option maxRecDepth 20000 in
set_option maxHeartbeats 8000000 in
theorem packets_ok (p : PlanL) (n : Int) (hR : rightQ p) (hi : p.hi < 18446744073709551616) (lo : p.lo < 18446744073709551616) (hm : p.mo ≤ 100) (w : World) : Calls Try.prog 7 #[.agg (plA p), .int .i64 n] w fun e w' => e = .returned (.bool true) ∧ Below w.heap.size w w' := by
  have hN := fun w => new_ok p hR w
  have hR1 := fun w => right_any p true (decide_eq_true hR) w
  have hR2 := fun w => lright_any p true (decide_eq_true hR) w
  unfold plA at hN hR1 hR2 ⊢
  obtain ⟨w1, hw1⟩ : ∃ w1, w.alloc (.cells #[.int .u64 (p.key : Int), .int .i64 p.cl, .int .i64 p.po, .bool p.v6, .int .u64 (p.hi : Int), .int .u64 (p.lo : Int), .int .i64 p.pr, .int .i64 p.vp, .int .i64 p.co, .bool p.na, .int .i64 p.mo] 51) = w1 := ⟨_, rfl⟩
  have hB : Below w.heap.size w w1 := hw1 ▸ (Below.refl _ _).alloc (Nat.le_refl _) _
  have hb := hw1 ▸ blk_new w 51 #[.int .u64 (p.key : Int), .int .i64 p.cl, .int .i64 p.po, .bool p.v6, .int .u64 (p.hi : Int), .int .u64 (p.lo : Int), .int .i64 p.pr, .int .i64 p.vp, .int .i64 p.co, .bool p.na, .int .i64 p.mo]
  have hc := blk_cell hb
  have z1 := hB.size
  have zb0 := blk_lt hb
  replace hN := hide hN
  replace hB := hide hB
  replace hb := hide hb
  replace hR1 := hide hR1
  replace hR2 := hide hR2
  replace hR := hide hR
  go_enter Try.func7, Try.ntmps7
  go_upto_region 1 with fail
  clear hw1
  go_wp2_with fail
  clear hc
  refine (hN.out _).mono ?_
  rintro e w2 ⟨s, g, rfl, zg, zs, hne, hs, hg, hb2⟩
  have hbb := blk_on hb2 hb.out
  replace hB := hide (hB.out.trans (hb2.mono hB.out.size))
  clear hb2 hb
  have zb := blk_lt hbb
  replace hs := hide hs
  replace hg := hide hg
  go_upto_region 2 with fail
  have hcl := fun (l : Later w2) (o : Nat) => blk_cell (blk_below l.hb zb hbb) o
  refine wp_region_L (by as_aux_lemma => kernel_rfl) ?_
  refine wpE_seg 0 5 (fuel := 0) (by as_aux_lemma => kernel_rfl) (fun d _ _ _ _ h => by cases d <;> exact h) (by as_aux_lemma => kernel_rfl) (by as_aux_lemma => kernel_rfl) ?_
  simp only [List.drop_zero, List.take_succ_cons, List.take_zero]
  iterate 1 (refine wpQE_step (fun K hK => ?_); go_simp; refine hK _ ?_; clear hK K)
  (refine wpQE_step (fun K hK => ?_); go_simp; apply Exists.intro; refine ⟨fun l => ?_, hK _ ?_⟩; (go_at_call 21; refine (hR1.out l.w).mono ?_; rintro e w' ⟨rfl, hb⟩; exact ⟨rfl, hb⟩); clear hK K)
  iterate 1 (refine wpQE_step (fun K hK => ?_); go_simp; refine hK _ ?_; clear hK K)
  (refine wpQE_step (fun K hK => ?_); go_simp; apply Exists.intro; refine ⟨fun l => ?_, hK _ ?_⟩; (go_at_call 22; refine (hR2.out l.w).mono ?_; rintro e w' ⟨rfl, hb⟩; exact ⟨rfl, hb⟩); clear hK K)
  iterate 1 (refine wpQE_step (fun K hK => ?_); go_simp; refine hK _ ?_; clear hK K)
  refine wpQE_nil ?_
  clear hcl
  refine wpE_done (by as_aux_lemma => kernel_rfl) (fun w3 hb3 => ?_) 0
  have hb4 := blk_on hb3 hbb
  replace hs := hide (blk_on hb3 hs.out)
  replace hg := hide (blk_on hb3 hg.out)
  replace hB := hide (hB.out.trans (hb3.mono hB.out.size))
  clear hb3 hbb
  have hc := blk_cell hb4
  replace hb4 := hide hb4
  go_wp2_with fail
  clear hc
  refine (hR2.out _).mono ?_
  rintro e w5 ⟨rfl, hb5⟩
  have hb6 := blk_on hb5 hb4.out
  replace hs := hide (blk_on hb5 hs.out)
  replace hg := hide (blk_on hb5 hg.out)
  replace hB := hide (hB.out.trans (hb5.mono hB.out.size))
  clear hb5 hb4
  have hc := blk_cell hb6
  replace hb6 := hide hb6
  have hm2 : ¬ (100 : Int) < p.mo := by omega
  obtain ⟨w7, hw7⟩ : ∃ w7, w5.alloc (.cells (plaA p p.key (.slice none 0 0)) 59) = w7 := ⟨_, rfl⟩
  have hb7 : Below w5.heap.size w5 w7 := hw7 ▸ (Below.refl _ _).alloc (Nat.le_refl _) _
  have hx7 : PlaAt w7 w5.heap.size p p.key (.slice none 0 0) := hw7 ▸ blk_new _ _ _
  have zs2 := blk_lt hs.out
  have zg2 := blk_lt hg.out
  have zb2 := blk_lt hb6.out
  have hb8 := blk_on hb7 hb6.out
  have hI : GInv w7 p s g w5.heap.size w.heap.size p.key [] (.slice none 0 0) p.key [] (.slice none 0 0) :=
    ⟨blk_on hb7 hs.out, blk_on hb7 hg.out, rowsP_nil _ _ _ _, hx7, rowsP_nil _ _ _ _, (fun k h => by cases h), (fun k h => by cases h), (fun k h => by cases h)⟩
  have zB := hB.out.size
  have hB7 := hB.out.trans (hb7.mono zB)
  clear hb7 hx7 hs hg hb6 hB
  unfold plaA at hw7
  replace hI := hide hI
  replace hB7 := hide hB7
  replace hb8 := hide hb8
  go_upto_region 9 with fail
  clear hc hw7
  generalize w5.heap.size = x at hI zs2 zg2 zb2 zB ⊢
  have zx' : w.heap.size ≤ x := zB
  have zg' : w.heap.size ≤ g := by omega
  have zs' : w.heap.size ≤ s := by omega
  have hxg : x ≠ g := by omega
  have hxs : x ≠ s := by omega
  have hbg : w.heap.size ≠ g := by omega
  have hbs : w.heap.size ≠ s := by omega
  have hbx : w.heap.size ≠ x := by omega
  go_wp2_with fail
  go_loopw [8] (fun i wr => ∃ k : Nat, k ≤ 60 ∧ i = .int .i64 (k : Int) ∧ ∃ a ts ov lv, ts.length ≤ 256 ∧ (∀ x ∈ ts, x.1 ≤ 65535 ∧ x.2 ≤ 65535) ∧ GInv wr p s g x (w.heap.size + 1) a ts ov a ts lv ∧ Below w.heap.size w wr ∧ wr.heap[w.heap.size]? = some (.cells #[.int .u64 (p.key : Int), .int .i64 p.cl, .int .i64 p.po, .bool p.v6, .int .u64 (p.hi : Int), .int .u64 (p.lo : Int), .int .i64 p.pr, .int .i64 p.vp, .int .i64 p.co, .bool p.na, .int .i64 p.mo] 51 (0, 0))) (fun i _ => 60 - (intOf i).toNat)
  case atStart => exact ⟨0, by omega, rfl, _, [], _, _, by simp, by simp, ⟨hI.out.hs, hI.out.hg, rowsP_nil _ _ _ _, hI.out.hx, rowsP_nil _ _ _ _, hI.out.o1, hI.out.l1, hI.out.d⟩, hB7.out, hb8.out⟩
  case round =>
    obtain ⟨k, hk, rfl, a, ts, ov, lv, hl, hts, hI, hB, hb⟩ := hrel
    have hgo : ((k : Int) < n ∧ (k : Int) < 60) ∨ ((k : Int) < n ∧ ¬ (k : Int) < 60) ∨ ¬ (k : Int) < n := by omega
    have zx := blk_lt hI.hx
    have zs := blk_lt hI.hs
    have zb := blk_lt hb
    have hob : ov.ownBlock ≠ some w.heap.size := fun e => by have := (rowsP.lt hI.ho _ e).1; omega
    have hlb : lv.ownBlock ≠ some w.heap.size := fun e => by have := (rowsP.lt hI.hl _ e).1; omega
    have hol : ∀ k, ov.ownBlock = some k → w.heap.size ≤ k := fun k e => by have := (rowsP.lt hI.ho _ e).1; omega
    have hll : ∀ k, lv.ownBlock = some k → w.heap.size ≤ k := fun k e => by have := (rowsP.lt hI.hl _ e).1; omega
    have hlr : ∀ k, lv.ownBlock = some k → k < wr.heap.size := fun k e => (rowsP.lt hI.hl _ e).2
    have hls : lv.ownBlock ≠ some s := fun e => (hI.l1 _ e).2.1 rfl
    rcases hgo with ⟨q1, q2⟩ | hend
    · have zw := hB.size
      obtain ⟨nU, slo, sp, fl, hUl, hUn, hP⟩ := pktT_pis p hR.out hi lo a ts hts
      obtain ⟨hl', hts'⟩ := pktT_inv p hR.out a ts hl hts
      have hPk := fun (h : GInv wr p s g x (w.heap.size + 1) a ts ov a ts lv) => Packet_any s g a (w.heap.size + 1) p ov ts hR.out hi lo hne (fun e => (h.o1 _ e).1 rfl) (fun e => (h.o1 _ e).2.1 rfl) hl hts wr h.hs h.hg h.ho (by omega)
      have hLw := fun (w' : World) (r : List UInt8 × Nat × List (Nat × Nat)) (ov' : Value) (h : GInv w' p s g x (w.heap.size + 1) r.2.1 r.2.2 ov' a ts lv) (hz : w.heap.size + 1 ≤ w'.heap.size) => lpacket_any x a (w.heap.size + 1) p lv ts hR.out hi lo (fun e => (h.l1 _ e).2.2 rfl) hl hts w' h.hx h.hl hz
      obtain ⟨r, hr⟩ : ∃ r, pktT p a ts = r := ⟨_, rfl⟩
      rw [hr] at hUl hP hPk hLw hl' hts'
      obtain ⟨y, hy⟩ : ∃ y, (#[.bool p.v6, .int .i64 p.pr, .bool p.v6, .int .u64 (srcHi p : Int), .int .u64 (slo : Int), .bool p.v6, .int .u64 (p.hi : Int), .int .u64 (p.lo : Int), .int .i64 (sp : Int), .int .i64 p.vp, .int .i64 64, .int .i64 (fl : Int), .bool false, .int .i64 0, .bool false, .int .u64 0, .int .u64 0, .bool false, .int .u64 0, .int .u64 0, .int .i64 0, .int .i64 0, .int .i64 (nU : Int)] : Array Value) = y := ⟨_, rfl⟩
      have hpr : (p.pr.toNat : Int) = p.pr := by
        have := hR.out.2.2.2.2.2.2.2.1
        omega
      have hyA : pkA p.v6 p.pr.toNat (srcHi p) slo p.hi p.lo (sp : Int) p.vp 64 (fl : Int) (nU : Int) = y := by
        rw [← hy]
        unfold pkA
        rw [hpr]
      have hys : y.size = 23 := hy ▸ rfl
      have hyo : y.all (·.oneCell') = true := hyA ▸ pkA_one _ _ _ _ _ _ _ _ _ _ _
      rw [hyA] at hP
      obtain ⟨U, a2, ts2⟩ := r
      dsimp only at hUl hP hPk hLw hl' hts'
      obtain ⟨sb, hsb⟩ : ∃ sb, str U = sb := ⟨_, rfl⟩
      clear hyA hpr hr
      replace hI := hide hI
      replace hB := hide hB
      replace hb := hide hb
      replace hP := hide hP
      replace hPk := hide hPk
      replace hLw := hide hLw
      replace hl' := hide hl'
      replace hts' := hide hts'
      replace hUl := hide hUl
      replace hy := hide hy
      replace hys := hide hys
      replace hyo := hide hyo
      replace hsb := hide hsb
      replace hob := hide hob
      replace hlb := hide hlb
      replace hol := hide hol
      replace hll := hide hll
      replace hlr := hide hlr
      replace hls := hide hls
      go_upto_region 12 with fail
      go_wp2_with fail
      refine (hPk.out hI.out).mono ?_
      rintro e w8 he
      obtain ⟨v8, ov', rfl, hv8, hI8, hk8⟩ := hI.out.src hxg hxs he
      dsimp only at hv8 hI8
      have hb8 := (hk8.block w.heap.size (by omega) (by rintro (h | h | h); exact hbg h; exact hbs h; exact hob.out h)).trans hb.out
      have hBB : Below w.heap.size wr w8 := below_of_kept hk8 zw (by rintro k (h | h | h); omega; omega; exact hol.out k h)
      have hB8 := hB.out.trans hBB
      have z8 := hk8.size
      obtain ⟨A8, c8, rfl, hc8, hm8, hi8⟩ := hv8.form
      rw [hUl.out] at hc8 hi8 hv8 ⊢
      have hvo : ∀ k, (Value.slice A8 nU c8).ownBlock = some k → wr.heap.size ≤ k := fun k e => (World.ownsRow.lt hv8 k e).1
      clear hk8 hBB he hI hB hb hPk
      replace hI8 := hide hI8
      replace hb8 := hide hb8
      replace hB8 := hide hB8
      replace hi8 := hide hi8
      replace hv8 := hide hv8
      replace hvo := hide hvo
      go_upto_region 13 with fail
      apply wp_region_lit
      iterate 1 (refine wpList_plain rfl fun K hK => ?_; go_simp; refine hK _ _ ?_; clear hK K)
      refine wpList_plain rfl fun K hK => ?_
      go_simp
      refine (hP.out _ c8 _ hi8.out hc8 hm8).mono ?_
      rintro e w9 hE
      obtain ⟨rfl, hb9⟩ := hE
      rw [if_pos rfl]
      have hI9 := hI8.out.below hb9
      have hbp9 := blk_on hb9 hb8.out
      have hv9 := hv8.out.below hb9
      have hB9 := hB8.out.trans (hb9.mono hB8.out.size)
      have z9 := hb9.size
      clear hb9 hI8 hb8 hB8 hi8 hv8
      replace hI9 := hide hI9
      replace hbp9 := hide hbp9
      replace hB9 := hide hB9
      replace hv9 := hide hv9
      go_simp
      refine hK _ _ ?_
      clear hK K
      iterate 3 (refine wpList_plain rfl fun K hK => ?_; go_simp; refine hK _ _ ?_; clear hK K)
      refine wpl_new rfl rfl 34 _ (alloc_pk _ rfl) 10 rfl (.tmp 73) rfl _ (fun _ => rfl) (fun _ => rfl) (by rw [pkZ_size]; exact hys.out) (by rw [size_pk, hys.out]) hyo.out ?_
      intro w10 hgy hb10 hz10
      have hI10 := hI9.out.below hb10
      have hbp10 := blk_on hb10 hbp9.out
      have hv10 := hv9.out.below hb10
      have hB10 := hB9.out.trans (hb10.mono hB9.out.size)
      clear hb10 hI9 hbp9 hB9 hv9
      replace hI10 := hide hI10
      replace hbp10 := hide hbp10
      replace hB10 := hide hB10
      replace hgy := hide hgy
      replace hv10 := hide hv10
      iterate 1 (refine wpList_plain rfl fun K hK => ?_; go_simp; refine hK _ _ ?_; clear hK K)
      refine wpList_nil ?_
      go_upto_region 14 with fail
      refine wp_region_X (KeptS w10.heap.size (fun k => k = x ∨ lv.ownBlock = some k)) (by as_aux_lemma => kernel_rfl) ?_
      intro wd hbd
      have hId := hI10.out.below hbd
      have hbpd := blk_on hbd hbp10.out
      have hgyd := blk_on hbd hgy.out
      have hBd := hB10.out.trans (hbd.mono hB10.out.size)
      have zd := hbd.size
      have hvP : ∀ k, (Value.slice A8 nU c8).ownBlock = some k → ¬ (k = x ∨ lv.ownBlock = some k) := fun k e h => by
        have h1 := hvo.out k e
        rcases h with h | h
        · omega
        · have := hlr.out k h
          omega
      have hst1 := fun l : RelW (KeptS w10.heap.size (fun k => k = x ∨ lv.ownBlock = some k)) wd => (OwnB.reads (OwnB.keptS hv10.out (keptS_trans _ _ _ _ _ (keptS_of_below hbd (Nat.le_refl _)) l.hk) (Nat.le_refl _) hvP)).2.2.2.str c8
      rw [hsb.out] at hst1
      clear hbd hI10 hbp10 hB10 hgy hv10 hvP
      refine wpX_seg (KeptS w10.heap.size (fun k => k = x ∨ lv.ownBlock = some k)) 0 3 (fuel := 44) (by as_aux_lemma => kernel_rfl) (fun d _ _ _ _ h => by cases d <;> exact h) (by as_aux_lemma => kernel_rfl) (by as_aux_lemma => kernel_rfl) ?_
      simp only [List.drop_zero, List.take_succ_cons, List.take_zero]
      iterate 3 (refine wpQX_step (fun K hK => ?_); go_simp; refine hK _ ?_; clear hK K)
      refine wpQF_nil ?_
      clear hst1
      refine wpF_step 3 rfl (by as_aux_lemma => kernel_rfl) (fun K hK => ?_)
      go_simp
      go_at_call 25
      refine (hLw.out wd (U, a2, ts2) ov' hId (by omega)).mono ?_
      rintro e w11 he2
      obtain ⟨v11, lv', rfl, hv11, hI11, hk11⟩ := hId.law hxg hxs he2
      dsimp only at hv11 hI11
      refine hK _ _ (keptS_mono hk11 zd (fun k _ h => h)) ?_
      clear hK K
      have hbp11 := (hk11.block w.heap.size (by omega) (by rintro (h | h); exact hbx h; exact hlb.out h)).trans hbpd
      have hgy11 := (hk11.block w9.heap.size (by omega) (by rintro (h | h); omega; have := hlr.out _ h; omega)).trans hgyd
      have hB11 := hBd.trans (below_of_kept (B := w.heap.size) hk11 (by omega) (by rintro k (h | h); omega; exact hll.out k h))
      have z11 := hk11.size
      obtain ⟨A11, c11, rfl, hc11, hm11, hi11⟩ := hv11.form
      rw [hUl.out] at hi11 ⊢
      have hst2 := hi11.str c11
      rw [hsb.out] at hst2
      obtain ⟨A12, c12, rfl⟩ := OwnF.val hI11.hl
      obtain ⟨A13, c13, rfl⟩ := OwnF.val hI11.ho
      clear hk11 he2 hId hbpd hgyd hBd hv11 hi11
      rw [← hy.out] at hgy11
      replace hI11 := hide hI11
      replace hbp11 := hide hbp11
      replace hgy11 := hide hgy11
      replace hB11 := hide hB11
      refine wpF_step 4 rfl (by as_aux_lemma => kernel_rfl) (fun K hK => ?_)
      go_simp
      refine hK _ _ (IsRel.refl _) ?_
      clear hK K
      clear hst2
      refine wpF_step 5 rfl (by as_aux_lemma => kernel_rfl) (fun K hK => ?_)
      go_simp
      refine hK _ _ (IsRel.refl _) ?_
      clear hK K
      refine wpF_step 6 rfl (by as_aux_lemma => kernel_rfl) (fun K hK => ?_)
      go_simp
      refine hK _ _ (IsRel.refl _) ?_
      clear hK K
      have hcy := fun (l : RelW (KeptS w10.heap.size (fun k => k = x ∨ lv.ownBlock = some k)) w11) (o : Nat) => blk_cell ((l.hk.block w9.heap.size hz10 (by rintro (h | h); omega; have := hlr.out _ h; omega)).trans hgy11.out) o
      have hcp := fun (l : RelW (KeptS w10.heap.size (fun k => k = x ∨ lv.ownBlock = some k)) w11) (o : Nat) => blk_cell ((l.hk.block w.heap.size (by omega) (by rintro (h | h); exact hbx h; exact hlb.out h)).trans hbp11.out) o
      have hop := fun (l : RelW (KeptS w10.heap.size (fun k => k = x ∨ lv.ownBlock = some k)) w11) => open_any s g p _ _ _ l.w ((l.hk.block s (by omega) (by rintro (h | h); exact hxs h.symm; exact hls.out h)).trans hI11.out.hs)
      refine wpX_seg (KeptS w10.heap.size (fun k => k = x ∨ lv.ownBlock = some k)) 7 33 (fuel := 7) (by as_aux_lemma => kernel_rfl) (fun d _ _ _ _ h => by cases d <;> exact h) (by as_aux_lemma => kernel_rfl) (by as_aux_lemma => kernel_rfl) ?_
      simp only [List.drop_succ_cons, List.drop_zero, List.take_succ_cons, List.take_zero]
      iterate 32 (refine wpQX_step (fun K hK => ?_); go_simp; refine hK _ ?_; clear hK K)
      clear hcy hcp
      (refine wpQX_step (fun K hK => ?_); go_simp; apply Exists.intro; refine ⟨fun l => ?_, hK _ ?_⟩; (go_at_call 26; refine (hop l).mono ?_; rintro e w' ⟨rfl, hb⟩; exact ⟨rfl, hb⟩); clear hK K)
      refine wpQF_nil ?_
      clear hop
      refine wpX_seg (KeptS w10.heap.size (fun k => k = x ∨ lv.ownBlock = some k)) 40 3 (fuel := 4) (by as_aux_lemma => kernel_rfl) (fun d _ _ _ _ h => by cases d <;> exact h) (by as_aux_lemma => kernel_rfl) (by as_aux_lemma => kernel_rfl) ?_
      simp only [List.drop_succ_cons, List.drop_zero, List.take_succ_cons, List.take_zero]
      iterate 3 (refine wpQX_step (fun K hK => ?_); go_simp; refine hK _ ?_; clear hK K)
      refine wpQF_nil ?_
      have hc12 := (blk_cell hI11.out.hx 12).trans (show (plaA p a2 (.slice A12 ts2.length c12))[12]? = some (.slice A12 ts2.length c12) from rfl)
      refine wpF_step 43 rfl (by as_aux_lemma => kernel_rfl) (fun K hK => ?_)
      go_simp
      refine hK _ _ (IsRel.refl _) ?_
      clear hK K
      clear hc12
      refine wpF_step 44 rfl (by as_aux_lemma => kernel_rfl) (fun K hK => ?_)
      go_simp
      refine hK _ _ (IsRel.refl _) ?_
      clear hK K
      refine wpF_step 45 rfl (by as_aux_lemma => kernel_rfl) (fun K hK => ?_)
      go_simp
      refine hK _ _ (IsRel.refl _) ?_
      clear hK K
      refine wpF_step 46 rfl (by as_aux_lemma => kernel_rfl) (fun K hK => ?_)
      go_simp
      refine hK _ _ (IsRel.refl _) ?_
      clear hK K
      refine wpF_done (by as_aux_lemma => kernel_rfl) ?_ 0
      go_wp2_with fail
      go_roundw
      case rel => exact ⟨k + 1, by omega, by go_num, a2, ts2, _, _, hl'.out, hts'.out, hI11.out, hB11.out, hbp11.out⟩
      case measure => simp [intOf]; omega
    · have hF := fun w hs hg => flow_any s g a p ov hR.out hne w hs hg
      have hL := fun w hx => lflow_any x a p lv hR.out w hx
      obtain ⟨T, hT⟩ : ∃ T, flowT p a = T := ⟨_, rfl⟩
      rw [hT] at hF hL
      clear hts hob hlb hol hll hlr hls hb
      replace hI := hide hI
      replace hB := hide hB
      replace hF := hide hF
      replace hL := hide hL
      replace hT := hide hT
      rcases hend with ⟨q1, q2⟩ | q1
      · skip
        go_upto_region 16 with fail
        apply wp_region_lit
        iterate 1 (refine wpList_plain rfl fun K hK => ?_; go_simp; refine hK _ _ ?_; clear hK K)
        refine wpList_plain rfl fun K hK => ?_
        go_simp
        refine (hF.out _ hI.out.hs hI.out.hg).mono ?_
        rintro e w5 ⟨rfl, hg5, g5⟩
        have hx5 := grown_other g5 (blk_lt hI.out.hx) hxg hI.out.hx
        have hB5 := hB.out.trans (below_grown g5 hB.out.size zg')
        clear g5 hI hB hg5
        replace hx5 := hide hx5
        replace hB5 := hide hB5
        go_simp
        refine hK _ _ ?_
        clear hK K
        iterate 1 (refine wpList_plain rfl fun K hK => ?_; go_simp; refine hK _ _ ?_; clear hK K)
        refine wpList_plain rfl fun K hK => ?_
        go_simp
        refine (hL.out _ hx5.out).mono ?_
        rintro e w6 ⟨rfl, hx6, g6⟩
        have hB6 := hB5.out.trans (below_grown g6 hB5.out.size zx')
        clear g6 hx5 hB5 hx6
        replace hB6 := hide hB6
        go_simp
        refine hK _ _ ?_
        clear hK K
        refine wpl_val (.bool true) rfl (Pkt.eql_tu _ _ _ _ _ _ _ _ _ _ (.tmp 123) (.tmp 125) rfl (by rw [← hT.out]; rfl) (by rw [← hT.out]; rfl) w6) ?_
        dsimp only [Act.put]
        iterate 1 (refine wpList_plain rfl fun K hK => ?_; go_simp; refine hK _ _ ?_; clear hK K)
        refine wpList_step fun K hK => ?_
        go_simp
        refine (awake_any _).mono ?_
        rintro e w7 ⟨rfl, hb7⟩
        go_simp
        refine hK _ _ ?_
        clear hK K
        have hB7 := hB6.out.trans (hb7.mono hB6.out.size)
        clear hb7 hB6
        replace hB7 := hide hB7
        iterate 2 (refine wpList_plain rfl fun K hK => ?_; go_simp; refine hK _ _ ?_; clear hK K)
        refine wpList_nil ?_
        go_wp2_with fail
        go_ret
        exact ⟨by rfl, hB7.out⟩
      · skip
        go_upto_region 16 with fail
        apply wp_region_lit
        iterate 1 (refine wpList_plain rfl fun K hK => ?_; go_simp; refine hK _ _ ?_; clear hK K)
        refine wpList_plain rfl fun K hK => ?_
        go_simp
        refine (hF.out _ hI.out.hs hI.out.hg).mono ?_
        rintro e w5 ⟨rfl, hg5, g5⟩
        have hx5 := grown_other g5 (blk_lt hI.out.hx) hxg hI.out.hx
        have hB5 := hB.out.trans (below_grown g5 hB.out.size zg')
        clear g5 hI hB hg5
        replace hx5 := hide hx5
        replace hB5 := hide hB5
        go_simp
        refine hK _ _ ?_
        clear hK K
        iterate 1 (refine wpList_plain rfl fun K hK => ?_; go_simp; refine hK _ _ ?_; clear hK K)
        refine wpList_plain rfl fun K hK => ?_
        go_simp
        refine (hL.out _ hx5.out).mono ?_
        rintro e w6 ⟨rfl, hx6, g6⟩
        have hB6 := hB5.out.trans (below_grown g6 hB5.out.size zx')
        clear g6 hx5 hB5 hx6
        replace hB6 := hide hB6
        go_simp
        refine hK _ _ ?_
        clear hK K
        refine wpl_val (.bool true) rfl (Pkt.eql_tu _ _ _ _ _ _ _ _ _ _ (.tmp 123) (.tmp 125) rfl (by rw [← hT.out]; rfl) (by rw [← hT.out]; rfl) w6) ?_
        dsimp only [Act.put]
        iterate 1 (refine wpList_plain rfl fun K hK => ?_; go_simp; refine hK _ _ ?_; clear hK K)
        refine wpList_step fun K hK => ?_
        go_simp
        refine (awake_any _).mono ?_
        rintro e w7 ⟨rfl, hb7⟩
        go_simp
        refine hK _ _ ?_
        clear hK K
        have hB7 := hB6.out.trans (hb7.mono hB6.out.size)
        clear hb7 hB6
        replace hB7 := hide hB7
        iterate 2 (refine wpList_plain rfl fun K hK => ?_; go_simp; refine hK _ _ ?_; clear hK K)
        refine wpList_nil ?_
        go_wp2_with fail
        go_ret
        exact ⟨by rfl, hB7.out⟩
theorem genPackets_walk (key cl po : Int) (v6 : Bool) (hi lo : Int) (pr vp co : Int) (na : Bool) (mo n : Int) (w : World) (h1 : (Lit.int .u64 key).wf = true) (_ : (Lit.int .i64 cl).wf = true) (_ : (Lit.int .i64 po).wf = true) (h2 : (Lit.int .u64 hi).wf = true) (h3 : (Lit.int .u64 lo).wf = true) (_ : (Lit.int .i64 pr).wf = true) (_ : (Lit.int .i64 vp).wf = true) (_ : (Lit.int .i64 co).wf = true) (_ : (Lit.int .i64 mo).wf = true) (_ : (Lit.int .i64 n).wf = true) :
    Calls Try.prog 7 #[.agg #[.int .u64 key, .int .i64 cl, .int .i64 po, .bool v6, .int .u64 hi, .int .u64 lo, .int .i64 pr, .int .i64 vp, .int .i64 co, .bool na, .int .i64 mo], .int .i64 n] w fun e w' => e = .returned (.bool true) ∧ Below w.heap.size w w' := by
  have q1 := u64_wf h1
  have q2 := u64_wf h2
  have q3 := u64_wf h3
  obtain ⟨k, rfl⟩ : ∃ a : Nat, key = (a : Int) := ⟨key.toNat, by omega⟩
  obtain ⟨a, rfl⟩ : ∃ a : Nat, hi = (a : Int) := ⟨hi.toNat, by omega⟩
  obtain ⟨b, rfl⟩ : ∃ a : Nat, lo = (a : Int) := ⟨lo.toNat, by omega⟩
  by_cases hR : rightQ ⟨k, cl, po, v6, a, b, pr, vp, co, na, mo⟩
  · by_cases hm : mo ≤ 100
    · exact packets_ok ⟨k, cl, po, v6, a, b, pr, vp, co, na, mo⟩ n hR (by show a < _; omega) (by show b < _; omega) hm w
    · exact packets_big ⟨k, cl, po, v6, a, b, pr, vp, co, na, mo⟩ n hR (by show (100 : Int) < mo; omega) w
  · exact packets_no ⟨k, cl, po, v6, a, b, pr, vp, co, na, mo⟩ n hR w
end Gen35
end Go.Proofs.Ytfmmmjaficbchaa
