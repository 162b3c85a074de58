/- The statement PktTells, walked. Conditions: what pkt.Datagram, pkt.Unreach and pkt.Parse make of the bytes is known. (Written by gen_pkttells.py) -/
import Derived.Test.YtdmgbngdpjcliaaQPktTells1
import Derived.Test.YtdmgbngdpjcliaaQPktBig16
import Derived.Test.YtdmgbngdpjcliaaQPktMakes2
import Derived.Test.YtdmgbngdpjcliaaQPktParses2
import Derived.Deep.DeepCutAuto
namespace Go.Proofs.Ytdmgbngdpjcliaa
open Go.RowKit Go.ChangeShapes Go.WideShapes Go.ChangeAt Go.Deep
namespace Pkt
theorem pcut_b (A : Option Addr) (n c n1 : Nat) (w : World) (hn : n ≤ maxLen) (hc : n ≤ c) (h1 : min n 500 = n1) :
    Calls Try.prog 19 #[.slice A n c] w fun e w' => e = .returned (.slice A n1 c) ∧ Below w.heap.size w w' :=
  (Tun.pcut_as A n c n1 w hn hc h1).mono fun _ _ h => ⟨h.1, h.2 ▸ Below.refl _ _⟩
set_option maxRecDepth 20000 in
set_option maxHeartbeats 8000000 in
theorem tells_none (pr : Int) (sv : Bool) (shi slo : Int) (dv : Bool) (dhi dlo sp dp : Int) (fv : Bool) (fhi flo ttl most : Int) (n0 n c K0 : Nat) (xs U : List UInt8) (hK0 : K0 ≠ 0) (A : Option Addr) (w : World) (hx : IsB w w.heap.size A n xs) (hn : min n0 500 = n) (hnc : n0 ≤ c) (hcm : c ≤ maxLen)
    (hD : ∀ w : World, IsB w w.heap.size A n xs → Calls Try.prog 34 #[.agg (tuA pr sv shi slo dv dhi dlo sp dp), .int .i64 64, .slice A n c] w fun e w' => InEnd K0 U w w' e) :
    Calls Try.prog 10 #[.agg (tuA pr sv shi slo dv dhi dlo sp dp), .agg #[.bool fv, .int .u64 fhi, .int .u64 flo], .int .i64 ttl, .slice A n0 c, .int .i64 most] w fun e w' => e = .returned (.bool true) ∧ Below w.heap.size w w' := by
  have t1 : ((K0 : Int) != 0) = true := by rw [bne_iff_ne]; omega
  obtain ⟨w1, hw1⟩ : ∃ w1, w.alloc (.cells (tuA pr sv shi slo dv dhi dlo sp dp) 56) = w1 := ⟨_, rfl⟩
  obtain ⟨w2, hw2⟩ : ∃ w2, w1.alloc (.cells #[.bool fv, .int .u64 fhi, .int .u64 flo] 26) = w2 := ⟨_, rfl⟩
  have hb1 : Below w.heap.size w w1 := hw1 ▸ (Below.refl _ _).alloc (Nat.le_refl _) _
  have hb2 : Below w1.heap.size w1 w2 := hw2 ▸ (Below.refl _ _).alloc (Nat.le_refl _) _
  have hgt := blk_on hb2 (hw1 ▸ blk_new w 56 (tuA pr sv shi slo dv dhi dlo sp dp))
  have hgf := hw2 ▸ blk_new w1 26 #[.bool fv, .int .u64 fhi, .int .u64 flo]
  have hB := hb1.trans (hb2.mono hb1.size)
  have zt := blk_lt hgt
  have hn0 : n0 ≤ maxLen := by omega
  have hCut := fun l : Later w2 => pcut_b A n0 c n l.w hn0 hnc hn
  clear hb1 hb2
  unfold tuA at hw1 hgt hD ⊢
  replace hx := hide hx
  replace hD := hide hD
  replace hn := hide hn
  replace hCut := hide hCut
  replace hB := hide hB
  replace hgt := hide hgt
  replace hgf := hide hgf
  go_enter Try.func10, Try.ntmps10
  go_upto_region 1 with fail
  clear hw1 hw2
  have hcl := fun (l : Later w2) (o : Nat) => blk_cell (blk_below l.hb zt hgt.out) o
  refine wp_region_L (by as_aux_lemma => kernel_rfl) ?_
  refine wpE_seg 0 3 (fuel := 6) (by as_aux_lemma => kernel_rfl) (fun d _ _ _ _ h => by cases d <;> exact h) (by as_aux_lemma => kernel_rfl) (by as_aux_lemma => kernel_rfl) ?_
  simp only [List.drop_zero, List.take_succ_cons, List.take_zero]
  iterate 2 (refine wpQE_step (fun K hK => ?_); go_simp; refine hK _ ?_; clear hK K)
  (refine wpQE_step (fun K hK => ?_); go_simp; apply Exists.intro; refine ⟨fun l => ?_, hK _ ?_⟩; (go_at_call 19; refine (hCut.out l).mono ?_; rintro e w' ⟨rfl, hb⟩; exact ⟨rfl, hb⟩); clear hK K)
  refine wpQE_nil ?_
  clear hcl hCut
  refine wpE_step 3 (fuel := 5) rfl (by as_aux_lemma => kernel_rfl) (fun l K hK => ?_)
  go_simp
  have hBl := hB.out.trans (l.hb.mono hB.out.size)
  have hb1 := l.hb
  go_at_call 34
  refine (hD.out _ (hx.out.on hBl)).mono ?_
  rintro e w3 ⟨v3, rfl, -, h3, hb3⟩
  obtain rfl := h3 hK0
  refine hK _ _ hb3 ?_
  clear hK K
  refine wpE_seg 4 5 (fuel := 0) (by as_aux_lemma => kernel_rfl) (fun d _ _ _ _ h => by cases d <;> exact h) (by as_aux_lemma => kernel_rfl) (by as_aux_lemma => kernel_rfl) ?_
  simp only [List.drop_succ_cons, List.drop_zero, List.take_succ_cons, List.take_zero]
  iterate 5 (refine wpQE_step (fun K hK => ?_); go_simp; refine hK _ ?_; clear hK K)
  refine wpQE_nil ?_
  refine wpE_done (by as_aux_lemma => kernel_rfl) (fun w4 hb4 => ?_) 0
  have hb5 := hb1.trans ((hb3.mono hb1.size).trans (hb4.mono (Nat.le_trans hb1.size hb3.size)))
  clear hb1 hb3 hb4 hBl
  replace hB := hide (hB.out.trans (hb5.mono hB.out.size))
  replace hgt := hide (blk_on hb5 hgt.out)
  replace hgf := hide (blk_on hb5 hgf.out)
  clear hb5
  go_wp2_with fail
  refine (awake_any _).mono ?_
  rintro e w9 ⟨rfl, hb9⟩
  replace hB := hide (hB.out.trans (hb9.mono hB.out.size))
  replace hgt := hide (blk_on hb9 hgt.out)
  replace hgf := hide (blk_on hb9 hgf.out)
  clear hb9
  go_wp2_with fail
  go_ret
  exact ⟨rfl, hB.out⟩
set_option maxRecDepth 20000 in
set_option maxHeartbeats 8000000 in
theorem tells_arg (pr : Int) (sv : Bool) (shi slo : Int) (dv : Bool) (dhi dlo sp dp : Int) (fv : Bool) (fhi flo ttl most : Int) (n0 n c m : Nat) (xs U X : List UInt8) (hUl : U.length = m) (hbad : fv ≠ sv ∨ (ttl < 0 ∨ 255 < ttl ∨ (fv = false ∧ (fhi ≠ 0 ∨ 4294967296 ≤ flo)))) (A : Option Addr) (w : World) (hx : IsB w w.heap.size A n xs) (hn : min n0 500 = n) (hnc : n0 ≤ c) (hcm : c ≤ maxLen)
    (hD : ∀ w : World, IsB w w.heap.size A n xs → Calls Try.prog 34 #[.agg (tuA pr sv shi slo dv dhi dlo sp dp), .int .i64 64, .slice A n c] w fun e w' => InEnd 0 U w w' e)
    (hU : ∀ (A : Option Addr) (c : Nat) (w : World), IsB w w.heap.size A m U → m ≤ c → c ≤ maxLen → Calls Try.prog 37 #[.agg #[.bool fv, .int .u64 fhi, .int .u64 flo], .int .i64 ttl, .slice A m c, .int .i64 most] w fun e w' => InEnd 1 X w w' e) :
    Calls Try.prog 10 #[.agg (tuA pr sv shi slo dv dhi dlo sp dp), .agg #[.bool fv, .int .u64 fhi, .int .u64 flo], .int .i64 ttl, .slice A n0 c, .int .i64 most] w fun e w' => e = .returned (.bool true) ∧ Below w.heap.size w w' := by
  obtain ⟨w1, hw1⟩ : ∃ w1, w.alloc (.cells (tuA pr sv shi slo dv dhi dlo sp dp) 56) = w1 := ⟨_, rfl⟩
  obtain ⟨w2, hw2⟩ : ∃ w2, w1.alloc (.cells #[.bool fv, .int .u64 fhi, .int .u64 flo] 26) = w2 := ⟨_, rfl⟩
  have hb1 : Below w.heap.size w w1 := hw1 ▸ (Below.refl _ _).alloc (Nat.le_refl _) _
  have hb2 : Below w1.heap.size w1 w2 := hw2 ▸ (Below.refl _ _).alloc (Nat.le_refl _) _
  have hgt := blk_on hb2 (hw1 ▸ blk_new w 56 (tuA pr sv shi slo dv dhi dlo sp dp))
  have hgf := hw2 ▸ blk_new w1 26 #[.bool fv, .int .u64 fhi, .int .u64 flo]
  have hB := hb1.trans (hb2.mono hb1.size)
  have zt := blk_lt hgt
  have hn0 : n0 ≤ maxLen := by omega
  have hCut := fun l : Later w2 => pcut_b A n0 c n l.w hn0 hnc hn
  clear hb1 hb2
  unfold tuA at hw1 hgt hD ⊢
  replace hx := hide hx
  replace hD := hide hD
  replace hn := hide hn
  replace hCut := hide hCut
  replace hU := hide hU
  replace hUl := hide hUl
  replace hB := hide hB
  replace hgt := hide hgt
  replace hgf := hide hgf
  go_enter Try.func10, Try.ntmps10
  go_upto_region 1 with fail
  clear hw1 hw2
  have hcl := fun (l : Later w2) (o : Nat) => blk_cell (blk_below l.hb zt hgt.out) o
  refine wp_region_L (by as_aux_lemma => kernel_rfl) ?_
  refine wpE_seg 0 3 (fuel := 6) (by as_aux_lemma => kernel_rfl) (fun d _ _ _ _ h => by cases d <;> exact h) (by as_aux_lemma => kernel_rfl) (by as_aux_lemma => kernel_rfl) ?_
  simp only [List.drop_zero, List.take_succ_cons, List.take_zero]
  iterate 2 (refine wpQE_step (fun K hK => ?_); go_simp; refine hK _ ?_; clear hK K)
  (refine wpQE_step (fun K hK => ?_); go_simp; apply Exists.intro; refine ⟨fun l => ?_, hK _ ?_⟩; (go_at_call 19; refine (hCut.out l).mono ?_; rintro e w' ⟨rfl, hb⟩; exact ⟨rfl, hb⟩); clear hK K)
  refine wpQE_nil ?_
  clear hcl hCut
  refine wpE_step 3 (fuel := 5) rfl (by as_aux_lemma => kernel_rfl) (fun l K hK => ?_)
  go_simp
  have hBl := hB.out.trans (l.hb.mono hB.out.size)
  have hb1 := l.hb
  go_at_call 34
  refine (hD.out _ (hx.out.on hBl)).mono ?_
  rintro e w3 ⟨v3, rfl, h3, -, hb3⟩
  obtain ⟨A3, c3, rfl, hc3, hm3, hi3⟩ := (h3 rfl).form
  rw [hUl.out] at hi3 hc3 ⊢
  refine hK _ _ hb3 ?_
  clear hK K h3
  refine wpE_seg 4 5 (fuel := 0) (by as_aux_lemma => kernel_rfl) (fun d _ _ _ _ h => by cases d <;> exact h) (by as_aux_lemma => kernel_rfl) (by as_aux_lemma => kernel_rfl) ?_
  simp only [List.drop_succ_cons, List.drop_zero, List.take_succ_cons, List.take_zero]
  iterate 5 (refine wpQE_step (fun K hK => ?_); go_simp; refine hK _ ?_; clear hK K)
  refine wpQE_nil ?_
  refine wpE_done (by as_aux_lemma => kernel_rfl) (fun w4 hb4 => ?_) 0
  replace hi3 := hide (hi3.on hb4)
  have hb5 := hb1.trans ((hb3.mono hb1.size).trans (hb4.mono (Nat.le_trans hb1.size hb3.size)))
  clear hb1 hb3 hb4 hBl
  replace hB := hide (hB.out.trans (hb5.mono hB.out.size))
  replace hgt := hide (blk_on hb5 hgt.out)
  replace hgf := hide (blk_on hb5 hgf.out)
  clear hb5
  have hct := blk_cell hgt.out
  have hcf := blk_cell hgf.out
  go_wp2_with fail
  refine (hU.out _ c3 _ hi3.out hc3 hm3).mono ?_
  rintro e w5 ⟨v5, rfl, -, h5, hb5⟩
  obtain rfl := h5 (by omega)
  clear hct hcf h5
  replace hB := hide (hB.out.trans (hb5.mono hB.out.size))
  replace hgt := hide (blk_on hb5 hgt.out)
  replace hgf := hide (blk_on hb5 hgf.out)
  clear hb5
  have hct := blk_cell hgt.out
  have hcf := blk_cell hgf.out
  by_cases hne : fv = sv
  · subst hne
    replace hbad : ttl < 0 ∨ 255 < ttl ∨ (fv = false ∧ (fhi ≠ 0 ∨ 4294967296 ≤ flo)) := hbad.resolve_left (fun h => h rfl)
    have e1 : (fv != fv) = false := by simp
    by_cases h1 : ttl < 0
    · clear hbad
      go_wp2_with fail
      refine (awake_any _).mono ?_
      rintro e w9 ⟨rfl, hb9⟩
      replace hB := hide (hB.out.trans (hb9.mono hB.out.size))
      replace hgt := hide (blk_on hb9 hgt.out)
      replace hgf := hide (blk_on hb9 hgf.out)
      clear hb9
      go_wp2_with fail
      go_ret
      exact ⟨rfl, hB.out⟩
    by_cases h2 : 255 < ttl
    · clear hbad
      go_wp2_with fail
      refine (awake_any _).mono ?_
      rintro e w9 ⟨rfl, hb9⟩
      replace hB := hide (hB.out.trans (hb9.mono hB.out.size))
      replace hgt := hide (blk_on hb9 hgt.out)
      replace hgf := hide (blk_on hb9 hgf.out)
      clear hb9
      go_wp2_with fail
      go_ret
      exact ⟨rfl, hB.out⟩
    have h3 := (hbad.resolve_left h1).resolve_left h2
    obtain ⟨rfl, h4⟩ := h3
    clear hbad
    by_cases h5 : fhi = 0
    · have h6 : 4294967296 ≤ flo := h4.resolve_left (fun h => h h5)
      subst h5
      clear h4
      go_wp2_with fail
      refine (awake_any _).mono ?_
      rintro e w9 ⟨rfl, hb9⟩
      replace hB := hide (hB.out.trans (hb9.mono hB.out.size))
      replace hgt := hide (blk_on hb9 hgt.out)
      replace hgf := hide (blk_on hb9 hgf.out)
      clear hb9
      go_wp2_with fail
      go_ret
      exact ⟨rfl, hB.out⟩
    · have e2 : (fhi != 0) = true := by rw [bne_iff_ne]; exact h5
      clear h4 h5
      go_wp2_with fail
      refine (awake_any _).mono ?_
      rintro e w9 ⟨rfl, hb9⟩
      replace hB := hide (hB.out.trans (hb9.mono hB.out.size))
      replace hgt := hide (blk_on hb9 hgt.out)
      replace hgf := hide (blk_on hb9 hgf.out)
      clear hb9
      go_wp2_with fail
      go_ret
      exact ⟨rfl, hB.out⟩
  · clear hbad
    rcases fv with _ | _
    · rcases sv with _ | _
      · exact absurd rfl hne
      · clear hne
        go_wp2_with fail
        refine (awake_any _).mono ?_
        rintro e w9 ⟨rfl, hb9⟩
        replace hB := hide (hB.out.trans (hb9.mono hB.out.size))
        replace hgt := hide (blk_on hb9 hgt.out)
        replace hgf := hide (blk_on hb9 hgf.out)
        clear hb9
        go_wp2_with fail
        go_ret
        exact ⟨rfl, hB.out⟩
    · rcases sv with _ | _
      · clear hne
        go_wp2_with fail
        refine (awake_any _).mono ?_
        rintro e w9 ⟨rfl, hb9⟩
        replace hB := hide (hB.out.trans (hb9.mono hB.out.size))
        replace hgt := hide (blk_on hb9 hgt.out)
        replace hgf := hide (blk_on hb9 hgf.out)
        clear hb9
        go_wp2_with fail
        go_ret
        exact ⟨rfl, hB.out⟩
      · exact absurd rfl hne
set_option maxRecDepth 20000 in
set_option maxHeartbeats 8000000 in
theorem tells_short (pr : Int) (shi slo : Int) (dv : Bool) (dhi dlo sp dp : Int) (fv : Bool) (fhi flo ttl most : Int) (n0 n c m xm K2 : Nat) (xs U X : List UInt8) (y : Array Value) (hUl : U.length = m) (hXl : X.length = xm) (hfa : fv = false → fhi = 0 ∧ flo < 4294967296) (ht0 : 0 ≤ ttl) (ht1 : ttl ≤ 255) (hK2 : K2 = 0 ∨ K2 = 2) (hms : most < (if fv = true then 40 else 20) + 8)
    (hyo : K2 = 0 → y.size = 23 ∧ y.all (·.oneCell') = true) (A : Option Addr) (w : World) (hx : IsB w w.heap.size A n xs) (hn : min n0 500 = n) (hnc : n0 ≤ c) (hcm : c ≤ maxLen)
    (hD : ∀ w : World, IsB w w.heap.size A n xs → Calls Try.prog 34 #[.agg (tuA pr fv shi slo dv dhi dlo sp dp), .int .i64 64, .slice A n c] w fun e w' => InEnd 0 U w w' e)
    (hU : ∀ (A : Option Addr) (c : Nat) (w : World), IsB w w.heap.size A m U → m ≤ c → c ≤ maxLen → Calls Try.prog 37 #[.agg #[.bool fv, .int .u64 fhi, .int .u64 flo], .int .i64 ttl, .slice A m c, .int .i64 most] w fun e w' => InEnd 0 X w w' e)
    (hPX : ∀ (A : Option Addr) (c : Nat) (w : World), IsB w w.heap.size A xm X → xm ≤ c → c ≤ maxLen → Calls Try.prog 29 #[.slice A xm c] w fun e w' => End2 K2 y w w' e) :
    Calls Try.prog 10 #[.agg (tuA pr fv shi slo dv dhi dlo sp dp), .agg #[.bool fv, .int .u64 fhi, .int .u64 flo], .int .i64 ttl, .slice A n0 c, .int .i64 most] w fun e w' => e = .returned (.bool true) ∧ Below w.heap.size w w' := by
  obtain ⟨w1, hw1⟩ : ∃ w1, w.alloc (.cells (tuA pr fv shi slo dv dhi dlo sp dp) 56) = w1 := ⟨_, rfl⟩
  obtain ⟨w2, hw2⟩ : ∃ w2, w1.alloc (.cells #[.bool fv, .int .u64 fhi, .int .u64 flo] 26) = w2 := ⟨_, rfl⟩
  have hb1 : Below w.heap.size w w1 := hw1 ▸ (Below.refl _ _).alloc (Nat.le_refl _) _
  have hb2 : Below w1.heap.size w1 w2 := hw2 ▸ (Below.refl _ _).alloc (Nat.le_refl _) _
  have hgt := blk_on hb2 (hw1 ▸ blk_new w 56 (tuA pr fv shi slo dv dhi dlo sp dp))
  have hgf := hw2 ▸ blk_new w1 26 #[.bool fv, .int .u64 fhi, .int .u64 flo]
  have hB := hb1.trans (hb2.mono hb1.size)
  have zt := blk_lt hgt
  have hn0 : n0 ≤ maxLen := by omega
  have hCut := fun l : Later w2 => pcut_b A n0 c n l.w hn0 hnc hn
  clear hb1 hb2
  unfold tuA at hw1 hgt hD ⊢
  replace hx := hide hx
  replace hD := hide hD
  replace hn := hide hn
  replace hCut := hide hCut
  replace hU := hide hU
  replace hUl := hide hUl
  replace hXl := hide hXl
  replace hPX := hide hPX
  replace hyo := hide hyo
  replace hB := hide hB
  replace hgt := hide hgt
  replace hgf := hide hgf
  go_enter Try.func10, Try.ntmps10
  go_upto_region 1 with fail
  clear hw1 hw2
  have hcl := fun (l : Later w2) (o : Nat) => blk_cell (blk_below l.hb zt hgt.out) o
  refine wp_region_L (by as_aux_lemma => kernel_rfl) ?_
  refine wpE_seg 0 3 (fuel := 6) (by as_aux_lemma => kernel_rfl) (fun d _ _ _ _ h => by cases d <;> exact h) (by as_aux_lemma => kernel_rfl) (by as_aux_lemma => kernel_rfl) ?_
  simp only [List.drop_zero, List.take_succ_cons, List.take_zero]
  iterate 2 (refine wpQE_step (fun K hK => ?_); go_simp; refine hK _ ?_; clear hK K)
  (refine wpQE_step (fun K hK => ?_); go_simp; apply Exists.intro; refine ⟨fun l => ?_, hK _ ?_⟩; (go_at_call 19; refine (hCut.out l).mono ?_; rintro e w' ⟨rfl, hb⟩; exact ⟨rfl, hb⟩); clear hK K)
  refine wpQE_nil ?_
  clear hcl hCut
  refine wpE_step 3 (fuel := 5) rfl (by as_aux_lemma => kernel_rfl) (fun l K hK => ?_)
  go_simp
  have hBl := hB.out.trans (l.hb.mono hB.out.size)
  have hb1 := l.hb
  go_at_call 34
  refine (hD.out _ (hx.out.on hBl)).mono ?_
  rintro e w3 ⟨v3, rfl, h3, -, hb3⟩
  obtain ⟨A3, c3, rfl, hc3, hm3, hi3⟩ := (h3 rfl).form
  rw [hUl.out] at hi3 hc3 ⊢
  refine hK _ _ hb3 ?_
  clear hK K h3
  refine wpE_seg 4 5 (fuel := 0) (by as_aux_lemma => kernel_rfl) (fun d _ _ _ _ h => by cases d <;> exact h) (by as_aux_lemma => kernel_rfl) (by as_aux_lemma => kernel_rfl) ?_
  simp only [List.drop_succ_cons, List.drop_zero, List.take_succ_cons, List.take_zero]
  iterate 5 (refine wpQE_step (fun K hK => ?_); go_simp; refine hK _ ?_; clear hK K)
  refine wpQE_nil ?_
  refine wpE_done (by as_aux_lemma => kernel_rfl) (fun w4 hb4 => ?_) 0
  replace hi3 := hide (hi3.on hb4)
  have hb5 := hb1.trans ((hb3.mono hb1.size).trans (hb4.mono (Nat.le_trans hb1.size hb3.size)))
  clear hb1 hb3 hb4 hBl
  replace hB := hide (hB.out.trans (hb5.mono hB.out.size))
  replace hgt := hide (blk_on hb5 hgt.out)
  replace hgf := hide (blk_on hb5 hgf.out)
  clear hb5
  have hct := blk_cell hgt.out
  have hcf := blk_cell hgf.out
  rcases fv with _ | _
  · obtain ⟨rfl, hf6⟩ := hfa rfl
    clear hfa
    go_upto_region 4 with fail
    go_wp2_with fail
    refine (hU.out _ c3 _ hi3.out hc3 hm3).mono ?_
    rintro e w5 ⟨v5, rfl, h5, -, hb5⟩
    obtain ⟨A5, c5, rfl, hc5, hm5, hi5⟩ := (h5 rfl).form
    rw [hXl.out] at hi5 hc5 ⊢
    clear hct hcf h5
    replace hB := hide (hB.out.trans (hb5.mono hB.out.size))
    replace hgt := hide (blk_on hb5 hgt.out)
    replace hgf := hide (blk_on hb5 hgf.out)
    clear hb5
    replace hi5 := hide hi5
    have hcf := blk_cell hgf.out
    have hct := blk_cell hgt.out
    go_upto_region 11 with fail
    clear hct hcf
    apply wp_region_lit
    iterate 1 (refine wpList_plain rfl fun K hK => ?_; go_simp; refine hK _ _ ?_; clear hK K)
    refine wpList_plain rfl fun K hK => ?_
    go_simp
    refine ((hPX.out _ _ _ hi5.out hc5 hm5)).mono ?_
    rintro e w6 hE
    obtain ⟨z, rfl, hzs, hzo, hz, hb6⟩ := hE.letter hyo.out
    replace hB := hide (hB.out.trans (hb6.mono hB.out.size))
    replace hgt := hide (blk_on hb6 hgt.out)
    replace hgf := hide (blk_on hb6 hgf.out)
    replace hi5 := hide (hi5.out.on hb6)
    clear hb6
    replace hzo := hide hzo
    replace hz := hide hz
    clear hE
    go_simp
    refine hK _ _ ?_
    clear hK K
    iterate 3 (refine wpList_plain rfl fun K hK => ?_; go_simp; refine hK _ _ ?_; clear hK K)
    refine wpl_new rfl rfl 58 _ (alloc_pk _ rfl) 15 rfl (.tmp 90) rfl _ (fun _ => rfl) (fun _ => rfl) (by rw [pkZ_size]; exact hzs) (by rw [size_pk, hzs]) hzo.out ?_
    intro w7 hgp hb7 hz7
    replace hB := hide (hB.out.trans (hb7.mono hB.out.size))
    replace hgt := hide (blk_on hb7 hgt.out)
    replace hgf := hide (blk_on hb7 hgf.out)
    replace hi5 := hide (hi5.out.on hb7)
    clear hb7
    iterate 1 (refine wpList_plain rfl fun K hK => ?_; go_simp; refine hK _ _ ?_; clear hK K)
    refine wpList_nil ?_
    have hcf := blk_cell hgf.out
    replace hms : most < 28 := hms
    clear hgp
    rcases hK2 with rfl | rfl
    · go_wp2_with fail
      refine (awake_any _).mono ?_
      rintro e w9 ⟨rfl, hb9⟩
      replace hB := hide (hB.out.trans (hb9.mono hB.out.size))
      replace hgt := hide (blk_on hb9 hgt.out)
      replace hgf := hide (blk_on hb9 hgf.out)
      replace hi5 := hide (hi5.out.on hb9)
      clear hb9
      go_wp2_with fail
      go_ret
      exact ⟨rfl, hB.out⟩
    · go_wp2_with fail
      refine (awake_any _).mono ?_
      rintro e w9 ⟨rfl, hb9⟩
      replace hB := hide (hB.out.trans (hb9.mono hB.out.size))
      replace hgt := hide (blk_on hb9 hgt.out)
      replace hgf := hide (blk_on hb9 hgf.out)
      replace hi5 := hide (hi5.out.on hb9)
      clear hb9
      go_wp2_with fail
      go_ret
      exact ⟨rfl, hB.out⟩
  · clear hfa
    go_upto_region 4 with fail
    go_wp2_with fail
    refine (hU.out _ c3 _ hi3.out hc3 hm3).mono ?_
    rintro e w5 ⟨v5, rfl, h5, -, hb5⟩
    obtain ⟨A5, c5, rfl, hc5, hm5, hi5⟩ := (h5 rfl).form
    rw [hXl.out] at hi5 hc5 ⊢
    clear hct hcf h5
    replace hB := hide (hB.out.trans (hb5.mono hB.out.size))
    replace hgt := hide (blk_on hb5 hgt.out)
    replace hgf := hide (blk_on hb5 hgf.out)
    clear hb5
    replace hi5 := hide hi5
    have hcf := blk_cell hgf.out
    have hct := blk_cell hgt.out
    go_upto_region 11 with fail
    clear hct hcf
    apply wp_region_lit
    iterate 1 (refine wpList_plain rfl fun K hK => ?_; go_simp; refine hK _ _ ?_; clear hK K)
    refine wpList_plain rfl fun K hK => ?_
    go_simp
    refine ((hPX.out _ _ _ hi5.out hc5 hm5)).mono ?_
    rintro e w6 hE
    obtain ⟨z, rfl, hzs, hzo, hz, hb6⟩ := hE.letter hyo.out
    replace hB := hide (hB.out.trans (hb6.mono hB.out.size))
    replace hgt := hide (blk_on hb6 hgt.out)
    replace hgf := hide (blk_on hb6 hgf.out)
    replace hi5 := hide (hi5.out.on hb6)
    clear hb6
    replace hzo := hide hzo
    replace hz := hide hz
    clear hE
    go_simp
    refine hK _ _ ?_
    clear hK K
    iterate 3 (refine wpList_plain rfl fun K hK => ?_; go_simp; refine hK _ _ ?_; clear hK K)
    refine wpl_new rfl rfl 58 _ (alloc_pk _ rfl) 15 rfl (.tmp 90) rfl _ (fun _ => rfl) (fun _ => rfl) (by rw [pkZ_size]; exact hzs) (by rw [size_pk, hzs]) hzo.out ?_
    intro w7 hgp hb7 hz7
    replace hB := hide (hB.out.trans (hb7.mono hB.out.size))
    replace hgt := hide (blk_on hb7 hgt.out)
    replace hgf := hide (blk_on hb7 hgf.out)
    replace hi5 := hide (hi5.out.on hb7)
    clear hb7
    iterate 1 (refine wpList_plain rfl fun K hK => ?_; go_simp; refine hK _ _ ?_; clear hK K)
    refine wpList_nil ?_
    have hcf := blk_cell hgf.out
    replace hms : most < 48 := hms
    clear hgp
    rcases hK2 with rfl | rfl
    · go_wp2_with fail
      refine (awake_any _).mono ?_
      rintro e w9 ⟨rfl, hb9⟩
      replace hB := hide (hB.out.trans (hb9.mono hB.out.size))
      replace hgt := hide (blk_on hb9 hgt.out)
      replace hgf := hide (blk_on hb9 hgf.out)
      replace hi5 := hide (hi5.out.on hb9)
      clear hb9
      go_wp2_with fail
      go_ret
      exact ⟨rfl, hB.out⟩
    · go_wp2_with fail
      refine (awake_any _).mono ?_
      rintro e w9 ⟨rfl, hb9⟩
      replace hB := hide (hB.out.trans (hb9.mono hB.out.size))
      replace hgt := hide (blk_on hb9 hgt.out)
      replace hgf := hide (blk_on hb9 hgf.out)
      replace hi5 := hide (hi5.out.on hb9)
      clear hb9
      go_wp2_with fail
      go_ret
      exact ⟨rfl, hB.out⟩
set_option maxRecDepth 20000 in
set_option maxHeartbeats 8000000 in
theorem tells_good (shi slo : Int) (dhi dlo sp dp : Int) (fv : Bool) (fhi flo ttl most : Int) (n0 n c m xm : Nat) (xs U X : List UInt8) (y : Array Value) (hUl : U.length = m) (hXl : X.length = xm) (hfa : fv = false → fhi = 0 ∧ flo < 4294967296) (ht0 : 0 ≤ ttl) (ht1 : ttl ≤ 255) (hms : (if fv = true then 40 else 20) + 8 ≤ most) (P sz : Int) (hy : y = pkG fv P fv fhi flo fv shi slo 0 0 ttl 0 true 17 fv dhi dlo fv shi slo dp sp sz) (Z : List UInt8)
    (hyo : y.size = 23 ∧ y.all (·.oneCell') = true) (A : Option Addr) (w : World) (hx : IsB w w.heap.size A n xs) (hn : min n0 500 = n) (hnc : n0 ≤ c) (hcm : c ≤ maxLen)
    (hD : ∀ w : World, IsB w w.heap.size A n xs → Calls Try.prog 34 #[.agg (tuA 17 fv shi slo fv dhi dlo sp dp), .int .i64 64, .slice A n c] w fun e w' => InEnd 0 U w w' e)
    (hU : ∀ (A : Option Addr) (c : Nat) (w : World), IsB w w.heap.size A m U → m ≤ c → c ≤ maxLen → Calls Try.prog 37 #[.agg #[.bool fv, .int .u64 fhi, .int .u64 flo], .int .i64 ttl, .slice A m c, .int .i64 most] w fun e w' => InEnd 0 X w w' e)
    (hU2 : ∀ (A : Option Addr) (c : Nat) (w : World), IsB w w.heap.size A xm X → xm ≤ c → c ≤ maxLen → Calls Try.prog 37 #[.agg #[.bool fv, .int .u64 fhi, .int .u64 flo], .int .i64 ttl, .slice A xm c, .int .i64 most] w fun e w' => InEnd 1 Z w w' e)
    (hPX : ∀ (A : Option Addr) (c : Nat) (w : World), IsB w w.heap.size A xm X → xm ≤ c → c ≤ maxLen → Calls Try.prog 29 #[.slice A xm c] w fun e w' => End2 0 y w w' e) :
    Calls Try.prog 10 #[.agg (tuA 17 fv shi slo fv dhi dlo sp dp), .agg #[.bool fv, .int .u64 fhi, .int .u64 flo], .int .i64 ttl, .slice A n0 c, .int .i64 most] w fun e w' => e = .returned (.bool true) ∧ Below w.heap.size w w' := by
  obtain ⟨w1, hw1⟩ : ∃ w1, w.alloc (.cells (tuA 17 fv shi slo fv dhi dlo sp dp) 56) = w1 := ⟨_, rfl⟩
  obtain ⟨w2, hw2⟩ : ∃ w2, w1.alloc (.cells #[.bool fv, .int .u64 fhi, .int .u64 flo] 26) = w2 := ⟨_, rfl⟩
  have hb1 : Below w.heap.size w w1 := hw1 ▸ (Below.refl _ _).alloc (Nat.le_refl _) _
  have hb2 : Below w1.heap.size w1 w2 := hw2 ▸ (Below.refl _ _).alloc (Nat.le_refl _) _
  have hgt := blk_on hb2 (hw1 ▸ blk_new w 56 (tuA 17 fv shi slo fv dhi dlo sp dp))
  have hgf := hw2 ▸ blk_new w1 26 #[.bool fv, .int .u64 fhi, .int .u64 flo]
  have hB := hb1.trans (hb2.mono hb1.size)
  have zt := blk_lt hgt
  have hn0 : n0 ≤ maxLen := by omega
  have hCut := fun l : Later w2 => pcut_b A n0 c n l.w hn0 hnc hn
  clear hb1 hb2
  unfold tuA at hw1 hgt hD ⊢
  replace hx := hide hx
  replace hD := hide hD
  replace hn := hide hn
  replace hCut := hide hCut
  replace hU := hide hU
  replace hUl := hide hUl
  replace hXl := hide hXl
  replace hPX := hide hPX
  replace hyo := hide hyo
  replace hU2 := hide hU2
  replace hB := hide hB
  replace hgt := hide hgt
  replace hgf := hide hgf
  go_enter Try.func10, Try.ntmps10
  go_upto_region 1 with fail
  clear hw1 hw2
  have hcl := fun (l : Later w2) (o : Nat) => blk_cell (blk_below l.hb zt hgt.out) o
  refine wp_region_L (by as_aux_lemma => kernel_rfl) ?_
  refine wpE_seg 0 3 (fuel := 6) (by as_aux_lemma => kernel_rfl) (fun d _ _ _ _ h => by cases d <;> exact h) (by as_aux_lemma => kernel_rfl) (by as_aux_lemma => kernel_rfl) ?_
  simp only [List.drop_zero, List.take_succ_cons, List.take_zero]
  iterate 2 (refine wpQE_step (fun K hK => ?_); go_simp; refine hK _ ?_; clear hK K)
  (refine wpQE_step (fun K hK => ?_); go_simp; apply Exists.intro; refine ⟨fun l => ?_, hK _ ?_⟩; (go_at_call 19; refine (hCut.out l).mono ?_; rintro e w' ⟨rfl, hb⟩; exact ⟨rfl, hb⟩); clear hK K)
  refine wpQE_nil ?_
  clear hcl hCut
  refine wpE_step 3 (fuel := 5) rfl (by as_aux_lemma => kernel_rfl) (fun l K hK => ?_)
  go_simp
  have hBl := hB.out.trans (l.hb.mono hB.out.size)
  have hb1 := l.hb
  go_at_call 34
  refine (hD.out _ (hx.out.on hBl)).mono ?_
  rintro e w3 ⟨v3, rfl, h3, -, hb3⟩
  obtain ⟨A3, c3, rfl, hc3, hm3, hi3⟩ := (h3 rfl).form
  rw [hUl.out] at hi3 hc3 ⊢
  refine hK _ _ hb3 ?_
  clear hK K h3
  refine wpE_seg 4 5 (fuel := 0) (by as_aux_lemma => kernel_rfl) (fun d _ _ _ _ h => by cases d <;> exact h) (by as_aux_lemma => kernel_rfl) (by as_aux_lemma => kernel_rfl) ?_
  simp only [List.drop_succ_cons, List.drop_zero, List.take_succ_cons, List.take_zero]
  iterate 5 (refine wpQE_step (fun K hK => ?_); go_simp; refine hK _ ?_; clear hK K)
  refine wpQE_nil ?_
  refine wpE_done (by as_aux_lemma => kernel_rfl) (fun w4 hb4 => ?_) 0
  replace hi3 := hide (hi3.on hb4)
  have hb5 := hb1.trans ((hb3.mono hb1.size).trans (hb4.mono (Nat.le_trans hb1.size hb3.size)))
  clear hb1 hb3 hb4 hBl
  replace hB := hide (hB.out.trans (hb5.mono hB.out.size))
  replace hgt := hide (blk_on hb5 hgt.out)
  replace hgf := hide (blk_on hb5 hgf.out)
  clear hb5
  have hct := blk_cell hgt.out
  have hcf := blk_cell hgf.out
  rcases fv with _ | _
  · obtain ⟨rfl, hf6⟩ := hfa rfl
    clear hfa
    go_upto_region 4 with fail
    go_wp2_with fail
    refine (hU.out _ c3 _ hi3.out hc3 hm3).mono ?_
    rintro e w5 ⟨v5, rfl, h5, -, hb5⟩
    obtain ⟨A5, c5, rfl, hc5, hm5, hi5⟩ := (h5 rfl).form
    rw [hXl.out] at hi5 hc5 ⊢
    clear hct hcf h5
    replace hB := hide (hB.out.trans (hb5.mono hB.out.size))
    replace hgt := hide (blk_on hb5 hgt.out)
    replace hgf := hide (blk_on hb5 hgf.out)
    clear hb5
    replace hi5 := hide hi5
    have hcf := blk_cell hgf.out
    have hct := blk_cell hgt.out
    go_upto_region 11 with fail
    clear hct hcf
    apply wp_region_lit
    iterate 1 (refine wpList_plain rfl fun K hK => ?_; go_simp; refine hK _ _ ?_; clear hK K)
    refine wpList_plain rfl fun K hK => ?_
    go_simp
    refine ((hPX.out _ _ _ hi5.out hc5 hm5)).mono ?_
    rintro e w6 hE
    obtain ⟨z, rfl, hzs, hzo, hz, hb6⟩ := hE.letter (fun _ => hyo.out)
    replace hB := hide (hB.out.trans (hb6.mono hB.out.size))
    replace hgt := hide (blk_on hb6 hgt.out)
    replace hgf := hide (blk_on hb6 hgf.out)
    replace hi5 := hide (hi5.out.on hb6)
    clear hb6
    replace hzo := hide hzo
    replace hz := hide hz
    clear hE
    go_simp
    refine hK _ _ ?_
    clear hK K
    iterate 3 (refine wpList_plain rfl fun K hK => ?_; go_simp; refine hK _ _ ?_; clear hK K)
    refine wpl_new rfl rfl 58 _ (alloc_pk _ rfl) 15 rfl (.tmp 90) rfl _ (fun _ => rfl) (fun _ => rfl) (by rw [pkZ_size]; exact hzs) (by rw [size_pk, hzs]) hzo.out ?_
    intro w7 hgp hb7 hz7
    replace hB := hide (hB.out.trans (hb7.mono hB.out.size))
    replace hgt := hide (blk_on hb7 hgt.out)
    replace hgf := hide (blk_on hb7 hgf.out)
    replace hi5 := hide (hi5.out.on hb7)
    clear hb7
    iterate 1 (refine wpList_plain rfl fun K hK => ?_; go_simp; refine hK _ _ ?_; clear hK K)
    refine wpList_nil ?_
    have hcf := blk_cell hgf.out
    replace hms : 28 ≤ most := hms
    have hz2 := hz.out
    rw [if_pos rfl] at hz2
    subst hz2
    replace hy := hide hy
    have hgp0 := hgp
    replace hgp := hide hgp
    replace hgp := hide hgp
    go_upto_region 17 with fail
    go_wp2_with fail
    refine (hU2.out _ c5 _ hi5.out hc5 hm5).mono ?_
    rintro e w8 ⟨v8, rfl, -, h8, hb8⟩
    obtain rfl := h8 (by omega)
    clear hcf h8 hgp0
    replace hB := hide (hB.out.trans (hb8.mono hB.out.size))
    replace hgt := hide (blk_on hb8 hgt.out)
    replace hgf := hide (blk_on hb8 hgf.out)
    replace hi5 := hide (hi5.out.on hb8)
    replace hgp := hide (blk_on hb8 hgp.out)
    clear hb8
    go_upto_region 18 with fail
    have zp := blk_lt hgp.out
    have zt8 := blk_lt hgt.out
    have zf8 := blk_lt hgf.out
    have hyl := hy.out
    have hct := fun (l : Later w8) (o : Nat) => blk_cell (blk_below l.hb zt8 hgt.out) o
    have hcf := fun (l : Later w8) (o : Nat) => blk_cell (blk_below l.hb zf8 hgf.out) o
    have hcp := fun (l : Later w8) (o : Nat) => blk_cell (blk_below l.hb zp hgp.out) o
    rw [hyl] at hcp
    unfold pkG at hcp
    clear hyl
    have hBk := fun w : World => Icmp.back_of 17 sp dp false false shi slo dhi dlo w
    have hKy := fun w : World => key_any false P false 0 flo false shi slo 0 0 ttl 0 true 17 false dhi dlo false shi slo dp sp sz w
    rw [← hy.out] at hKy
    unfold keyA at hKy
    simp only [if_true] at hKy
    unfold tuA at hKy
    replace hBk := hide hBk
    replace hKy := hide hKy
    refine wp_region_L (by as_aux_lemma => kernel_rfl) ?_
    refine wpE_seg 0 49 (fuel := 0) (by as_aux_lemma => kernel_rfl) (fun d _ _ _ _ h => by cases d <;> exact h) (by as_aux_lemma => kernel_rfl) (by as_aux_lemma => kernel_rfl) ?_
    simp only [List.drop_zero, List.take_succ_cons, List.take_zero]
    iterate 10 (refine wpQE_step (fun K hK => ?_); go_simp; refine hK _ ?_; clear hK K)
    (refine wpQE_step (fun K hK => ?_); go_simp; apply Exists.intro; refine ⟨fun l => ?_, hK _ ?_⟩; (go_at_call 38; refine (hBk.out l.w).mono ?_; rintro e w' ⟨rfl, hb⟩; exact ⟨rfl, hb⟩); clear hK K)
    refine wpQE_val (.bool true) rfl (fun l => eql_tu 17 false dhi dlo false shi slo dp sp _ (.tmp 123) (.tmp 125) rfl rfl rfl l.w) ?_
    dsimp only [Act.put]
    iterate 2 (refine wpQE_step (fun K hK => ?_); go_simp; refine hK _ ?_; clear hK K)
    refine wpQE_val (.agg y) rfl (fun l => run_ldw l.w _ 58 (.tmp 15) rfl w6.heap.size rfl y _ (blk_below l.hb zp hgp.out) Try.underlying58 rfl (by rw [size_pk, hzs])) ?_
    dsimp only [Act.put]
    (refine wpQE_step (fun K hK => ?_); go_simp; apply Exists.intro; refine ⟨fun l => ?_, hK _ ?_⟩; (go_at_call 32; refine (hKy.out l.w).mono ?_; rintro e w' ⟨rfl, hb⟩; exact ⟨rfl, hb⟩); clear hK K)
    iterate 1 (refine wpQE_step (fun K hK => ?_); go_simp; refine hK _ ?_; clear hK K)
    (refine wpQE_step (fun K hK => ?_); go_simp; apply Exists.intro; refine ⟨fun l => ?_, hK _ ?_⟩; (go_at_call 38; refine (hBk.out l.w).mono ?_; rintro e w' ⟨rfl, hb⟩; exact ⟨rfl, hb⟩); clear hK K)
    refine wpQE_val (.bool true) rfl (fun l => eql_tu 17 false dhi dlo false shi slo dp sp _ (.tmp 130) (.tmp 132) rfl rfl rfl l.w) ?_
    dsimp only [Act.put]
    iterate 27 (refine wpQE_step (fun K hK => ?_); go_simp; refine hK _ ?_; clear hK K)
    (refine wpQE_step (fun K hK => ?_); go_simp; apply Exists.intro; refine ⟨fun l => ?_, hK _ ?_⟩; (go_at_call 30; refine (awake_any l.w).mono ?_; rintro e w' ⟨rfl, hb⟩; exact ⟨rfl, hb⟩); clear hK K)
    iterate 2 (refine wpQE_step (fun K hK => ?_); go_simp; refine hK _ ?_; clear hK K)
    refine wpQE_nil ?_
    refine wpE_done (by as_aux_lemma => kernel_rfl) (fun w9 hb9 => ?_) 0
    clear hct hcf hcp
    have hB9 := hB.out.trans (hb9.mono hB.out.size)
    clear hb9
    replace hB9 := hide hB9
    go_wp2_with fail
    go_ret
    exact ⟨rfl, hB9.out⟩
  · clear hfa
    go_upto_region 4 with fail
    go_wp2_with fail
    refine (hU.out _ c3 _ hi3.out hc3 hm3).mono ?_
    rintro e w5 ⟨v5, rfl, h5, -, hb5⟩
    obtain ⟨A5, c5, rfl, hc5, hm5, hi5⟩ := (h5 rfl).form
    rw [hXl.out] at hi5 hc5 ⊢
    clear hct hcf h5
    replace hB := hide (hB.out.trans (hb5.mono hB.out.size))
    replace hgt := hide (blk_on hb5 hgt.out)
    replace hgf := hide (blk_on hb5 hgf.out)
    clear hb5
    replace hi5 := hide hi5
    have hcf := blk_cell hgf.out
    have hct := blk_cell hgt.out
    go_upto_region 11 with fail
    clear hct hcf
    apply wp_region_lit
    iterate 1 (refine wpList_plain rfl fun K hK => ?_; go_simp; refine hK _ _ ?_; clear hK K)
    refine wpList_plain rfl fun K hK => ?_
    go_simp
    refine ((hPX.out _ _ _ hi5.out hc5 hm5)).mono ?_
    rintro e w6 hE
    obtain ⟨z, rfl, hzs, hzo, hz, hb6⟩ := hE.letter (fun _ => hyo.out)
    replace hB := hide (hB.out.trans (hb6.mono hB.out.size))
    replace hgt := hide (blk_on hb6 hgt.out)
    replace hgf := hide (blk_on hb6 hgf.out)
    replace hi5 := hide (hi5.out.on hb6)
    clear hb6
    replace hzo := hide hzo
    replace hz := hide hz
    clear hE
    go_simp
    refine hK _ _ ?_
    clear hK K
    iterate 3 (refine wpList_plain rfl fun K hK => ?_; go_simp; refine hK _ _ ?_; clear hK K)
    refine wpl_new rfl rfl 58 _ (alloc_pk _ rfl) 15 rfl (.tmp 90) rfl _ (fun _ => rfl) (fun _ => rfl) (by rw [pkZ_size]; exact hzs) (by rw [size_pk, hzs]) hzo.out ?_
    intro w7 hgp hb7 hz7
    replace hB := hide (hB.out.trans (hb7.mono hB.out.size))
    replace hgt := hide (blk_on hb7 hgt.out)
    replace hgf := hide (blk_on hb7 hgf.out)
    replace hi5 := hide (hi5.out.on hb7)
    clear hb7
    iterate 1 (refine wpList_plain rfl fun K hK => ?_; go_simp; refine hK _ _ ?_; clear hK K)
    refine wpList_nil ?_
    have hcf := blk_cell hgf.out
    replace hms : 48 ≤ most := hms
    have hz2 := hz.out
    rw [if_pos rfl] at hz2
    subst hz2
    replace hy := hide hy
    have hgp0 := hgp
    replace hgp := hide hgp
    replace hgp := hide hgp
    go_upto_region 17 with fail
    go_wp2_with fail
    refine (hU2.out _ c5 _ hi5.out hc5 hm5).mono ?_
    rintro e w8 ⟨v8, rfl, -, h8, hb8⟩
    obtain rfl := h8 (by omega)
    clear hcf h8 hgp0
    replace hB := hide (hB.out.trans (hb8.mono hB.out.size))
    replace hgt := hide (blk_on hb8 hgt.out)
    replace hgf := hide (blk_on hb8 hgf.out)
    replace hi5 := hide (hi5.out.on hb8)
    replace hgp := hide (blk_on hb8 hgp.out)
    clear hb8
    go_upto_region 18 with fail
    have zp := blk_lt hgp.out
    have zt8 := blk_lt hgt.out
    have zf8 := blk_lt hgf.out
    have hyl := hy.out
    have hct := fun (l : Later w8) (o : Nat) => blk_cell (blk_below l.hb zt8 hgt.out) o
    have hcf := fun (l : Later w8) (o : Nat) => blk_cell (blk_below l.hb zf8 hgf.out) o
    have hcp := fun (l : Later w8) (o : Nat) => blk_cell (blk_below l.hb zp hgp.out) o
    rw [hyl] at hcp
    unfold pkG at hcp
    clear hyl
    have hBk := fun w : World => Icmp.back_of 17 sp dp true true shi slo dhi dlo w
    have hKy := fun w : World => key_any true P true fhi flo true shi slo 0 0 ttl 0 true 17 true dhi dlo true shi slo dp sp sz w
    rw [← hy.out] at hKy
    unfold keyA at hKy
    simp only [if_true] at hKy
    unfold tuA at hKy
    replace hBk := hide hBk
    replace hKy := hide hKy
    refine wp_region_L (by as_aux_lemma => kernel_rfl) ?_
    refine wpE_seg 0 49 (fuel := 0) (by as_aux_lemma => kernel_rfl) (fun d _ _ _ _ h => by cases d <;> exact h) (by as_aux_lemma => kernel_rfl) (by as_aux_lemma => kernel_rfl) ?_
    simp only [List.drop_zero, List.take_succ_cons, List.take_zero]
    iterate 10 (refine wpQE_step (fun K hK => ?_); go_simp; refine hK _ ?_; clear hK K)
    (refine wpQE_step (fun K hK => ?_); go_simp; apply Exists.intro; refine ⟨fun l => ?_, hK _ ?_⟩; (go_at_call 38; refine (hBk.out l.w).mono ?_; rintro e w' ⟨rfl, hb⟩; exact ⟨rfl, hb⟩); clear hK K)
    refine wpQE_val (.bool true) rfl (fun l => eql_tu 17 true dhi dlo true shi slo dp sp _ (.tmp 123) (.tmp 125) rfl rfl rfl l.w) ?_
    dsimp only [Act.put]
    iterate 2 (refine wpQE_step (fun K hK => ?_); go_simp; refine hK _ ?_; clear hK K)
    refine wpQE_val (.agg y) rfl (fun l => run_ldw l.w _ 58 (.tmp 15) rfl w6.heap.size rfl y _ (blk_below l.hb zp hgp.out) Try.underlying58 rfl (by rw [size_pk, hzs])) ?_
    dsimp only [Act.put]
    (refine wpQE_step (fun K hK => ?_); go_simp; apply Exists.intro; refine ⟨fun l => ?_, hK _ ?_⟩; (go_at_call 32; refine (hKy.out l.w).mono ?_; rintro e w' ⟨rfl, hb⟩; exact ⟨rfl, hb⟩); clear hK K)
    iterate 1 (refine wpQE_step (fun K hK => ?_); go_simp; refine hK _ ?_; clear hK K)
    (refine wpQE_step (fun K hK => ?_); go_simp; apply Exists.intro; refine ⟨fun l => ?_, hK _ ?_⟩; (go_at_call 38; refine (hBk.out l.w).mono ?_; rintro e w' ⟨rfl, hb⟩; exact ⟨rfl, hb⟩); clear hK K)
    refine wpQE_val (.bool true) rfl (fun l => eql_tu 17 true dhi dlo true shi slo dp sp _ (.tmp 130) (.tmp 132) rfl rfl rfl l.w) ?_
    dsimp only [Act.put]
    iterate 27 (refine wpQE_step (fun K hK => ?_); go_simp; refine hK _ ?_; clear hK K)
    (refine wpQE_step (fun K hK => ?_); go_simp; apply Exists.intro; refine ⟨fun l => ?_, hK _ ?_⟩; (go_at_call 30; refine (awake_any l.w).mono ?_; rintro e w' ⟨rfl, hb⟩; exact ⟨rfl, hb⟩); clear hK K)
    iterate 2 (refine wpQE_step (fun K hK => ?_); go_simp; refine hK _ ?_; clear hK K)
    refine wpQE_nil ?_
    refine wpE_done (by as_aux_lemma => kernel_rfl) (fun w9 hb9 => ?_) 0
    clear hct hcf hcp
    have hB9 := hB.out.trans (hb9.mono hB.out.size)
    clear hb9
    replace hB9 := hide hB9
    go_wp2_with fail
    go_ret
    exact ⟨rfl, hB9.out⟩
end Pkt
end Go.Proofs.Ytdmgbngdpjcliaa
/- The statement PktTells, walked whole. Conditions: a slice of bytes that reads as a list, numbers of 64 bits. -/
namespace Go.Proofs.Ytdmgbngdpjcliaa
open Go.RowKit Go.ChangeShapes Go.WideShapes Go.ChangeAt Go.Deep
namespace Pkt
theorem fourK_01 (ttl shi slo dhi dlo : Int) : fourK ttl shi slo dhi dlo = 0 ∨ fourK ttl shi slo dhi dlo = 1 := by unfold fourK; split <;> simp
theorem ttlK_01 (ttl : Int) : ttlK ttl = 0 ∨ ttlK ttl = 1 := by unfold ttlK; split <;> simp
theorem okA_mk {lo : Nat} (h : lo < 4294967296) : Four.okA false ((0 : Nat) : Int) (lo : Int) = true := by
  simp [Four.okA]
  omega
/-- What is told over version 4. -/
theorem told4 (fhi flo slo dlo s d : Nat) (ttl most : Int) (xs : List UInt8) (hxs : xs.length ≤ 500) (b2 : flo < 18446744073709551616) (b4 : slo < 4294967296) (b6 : dlo < 4294967296) (hs : s ≤ 65535) (hd : d ≤ 65535)
    (U : List UInt8) (n : Nat) (hU : wrapB false 0 slo 0 dlo 17 64 (dgU false 0 slo 0 dlo s d xs) = U) (hUl : U.length = n)
    (hP : ∀ (A : Option Addr) (c : Nat) (w : World), IsB w w.heap.size A n U → n ≤ c → c ≤ maxLen → Calls Try.prog 29 #[.slice A n c] w fun e w' => End2 0 (pkA false 17 0 slo 0 dlo s d 64 0 n) w w' e) :
    ∃ X : List UInt8, (∀ (A : Option Addr) (c : Nat) (w : World), IsB w w.heap.size A n U → n ≤ c → c ≤ maxLen → Calls Try.prog 37 #[.agg #[.bool false, .int .u64 (fhi : Int), .int .u64 (flo : Int)], .int .i64 ttl, .slice A n c, .int .i64 most] w fun e w' => InEnd (fourK ttl fhi flo (0 : Nat) slo) X w w' e) ∧
      (fourK ttl fhi flo (0 : Nat) slo = 0 → ∃ K2 y, (K2 = 0 ∨ K2 = 2) ∧ y.size = 23 ∧ y.all (·.oneCell') = true ∧ y[0]? = some (.bool false) ∧ y[12]? = some (.bool true) ∧ (28 ≤ most → K2 = 0) ∧ (K2 = 0 → y = pkG false 1 false 0 flo false 0 slo 0 0 ttl 0 true 17 false 0 dlo false 0 slo d s X.length) ∧
        ∀ (A : Option Addr) (c : Nat) (w : World), IsB w w.heap.size A X.length X → X.length ≤ c → c ≤ maxLen → Calls Try.prog 29 #[.slice A X.length c] w fun e w' => End2 K2 y w w' e) := by
  obtain ⟨k, hk⟩ : ∃ k : Nat, (k : Int) = min (n : Int) (max most 0) := ⟨(min (n : Int) (max most 0)).toNat, by omega⟩
  obtain ⟨D, hD⟩ : ∃ D, dgU false 0 slo 0 dlo s d xs = D := ⟨_, rfl⟩
  have hDl : D.length = 8 + xs.length := hD ▸ dgU_length _ _ _ _ _ _ _ _
  have hg : beN D 0 2 = s ∧ beN D 2 2 = d := by
    rw [← hD]
    unfold dgU
    have := Udp.dg_parse true (aheadB false 0 slo 0 dlo 17 (8 + xs.length)) s d xs (by unfold aheadB; rw [if_neg (by simp)]; simp [beB_length]) hs hd (by omega)
    exact ⟨this.2.1, this.2.2.1⟩
  rw [hD] at hU
  have hU' : Four.hdB 0 0 0 64 17 slo dlo [] D.length ++ D = U := by
    rw [← hU]
    unfold wrapB
    rw [if_neg (by simp)]
    rfl
  have hnl : n = 20 + D.length := by rw [← hUl, ← hU', List.length_append, Four.hdB_length]; rfl
  obtain ⟨ds, hds⟩ : ∃ ds, U.take k = ds := ⟨_, rfl⟩
  have hdl : ds.length = k := by rw [← hds, List.length_take, hUl]; omega
  obtain ⟨q1, q2⟩ := quoted4 slo dlo s d D (by omega) hg.1 hg.2 b4 b6 k ds (by rw [hU']; exact hds)
  obtain ⟨M, hM⟩ : ∃ M, Icmp.msgB [] 3 0 0 ds = M := ⟨_, rfl⟩
  have hMl : M.length = k + 8 := by rw [← hM, Icmp.msgB_length, hdl]
  refine ⟨Four.hdB 0 0 0 ttl.toNat 1 flo slo [] M.length ++ M, fun A c w hx hc hcm => ?_, fun hK => ?_⟩
  · have := unreach_four fhi flo ttl n U most k hk (pkA false 17 0 slo 0 dlo s d 64 0 n) 0 slo rfl rfl rfl rfl rfl rfl (pkA_one _ _ _ _ _ _ _ _ _ _ _) A c w hx hc hcm (by omega) (fun w hx => hP A c w hx hc hcm)
    rw [hds, hM] at this
    exact this
  unfold fourK at hK
  split at hK
  case isFalse => omega
  rename_i hh
  obtain ⟨t1, t2, o1, o2⟩ := hh
  obtain ⟨rfl, hfl⟩ := okA_four o1
  obtain ⟨t, rfl⟩ : ∃ t : Nat, ttl = (t : Int) := ⟨ttl.toNat, by omega⟩
  have hXl : (Four.hdB 0 0 0 t 1 flo slo [] M.length ++ M).length = 20 + 0 + M.length := by rw [List.length_append, Four.hdB_length]; rfl
  have hw : wrapB false 0 flo 0 slo 1 t M = Four.hdB 0 0 0 t 1 flo slo [] M.length ++ M := by
    unfold wrapB
    rw [if_neg (by simp)]
    rfl
  rw [show ((t : Int).toNat) = t by omega]
  have fin : ∀ (K2 : Nat) (qr : Int) (sv : Bool) (sh sl : Int) (dv : Bool) (dh dl sp dp : Int), Icmp.QuotedIs false 3 ds K2 qr sv sh sl dv dh dl sp dp →
      ∀ (A : Option Addr) (c : Nat) (w : World), IsB w w.heap.size A (Four.hdB 0 0 0 t 1 flo slo [] M.length ++ M).length (Four.hdB 0 0 0 t 1 flo slo [] M.length ++ M) → (Four.hdB 0 0 0 t 1 flo slo [] M.length ++ M).length ≤ c → c ≤ maxLen → Calls Try.prog 29 #[.slice A (Four.hdB 0 0 0 t 1 flo slo [] M.length ++ M).length c] w fun e w' => End2 K2 (errA (p4A 1 flo slo t (20 + 0 + M.length)) (tuA qr dv dh dl sv sh sl dp sp)) w w' e := by
    intro K2 qr sv sh sl dv dh dl sp dp hQ A c w hx hc hcm
    have hup := upis_msg (p4A 1 flo slo t (20 + 0 + M.length)) rfl (p4A_one _ _ _ _ _) false rfl rfl (ps4 flo slo 1 M.length) ds (by rw [ps4_even]; omega) (by rw [ps4_even]) (by omega) 3 (by omega) K2 qr sv sh sl dv dh dl sp dp hQ
    rw [show aheadP false (ps4 flo slo 1 M.length) = [] from rfl, hM] at hup
    replace hup : UpIs (p4A 1 flo slo t (20 + 0 + M.length)) 1 M (ps4 flo slo 1 M.length) K2 (errA (p4A 1 flo slo t (20 + 0 + M.length)) (tuA qr dv dh dl sv sh sl dp sp)) := hup
    rw [← hw] at hx hc ⊢
    exact parse_wrap4 flo slo 1 t M hfl b4 (by omega) (by omega) (by omega) K2 _ (fun _ => ⟨(FromA.size (.inr (.inr ⟨_, _, _, _, _, _, _, _, _, rfl⟩)) rfl), (FromA.one (.inr (.inr ⟨_, _, _, _, _, _, _, _, _, rfl⟩)) (p4A_one _ _ _ _ _))⟩) hup A _ c w hx hc hcm
  by_cases h24 : ds.length < 24
  · exact ⟨2, _, .inr rfl, rfl, FromA.one (.inr (.inr ⟨_, _, _, _, _, _, _, _, _, rfl⟩)) (p4A_one _ _ _ _ _), rfl, rfl, fun h => by omega, fun h => absurd h (by omega), fin _ _ _ _ _ _ _ _ _ _ (q1 h24)⟩
  · exact ⟨0, _, .inl rfl, rfl, FromA.one (.inr (.inr ⟨_, _, _, _, _, _, _, _, _, rfl⟩)) (p4A_one _ _ _ _ _), rfl, rfl, fun _ => rfl, fun _ => by rw [hXl]; rfl, fin _ _ _ _ _ _ _ _ _ _ (q2 (by omega))⟩
/-- What is told over version 6. -/
theorem told6 (fhi flo shi slo dhi dlo s d : Nat) (ttl most : Int) (xs : List UInt8) (hxs : xs.length ≤ 500) (b1 : fhi < 18446744073709551616) (b2 : flo < 18446744073709551616) (b3 : shi < 18446744073709551616) (b4 : slo < 18446744073709551616) (b5 : dhi < 18446744073709551616) (b6 : dlo < 18446744073709551616) (hs : s ≤ 65535) (hd : d ≤ 65535)
    (U : List UInt8) (n : Nat) (hU : wrapB true shi slo dhi dlo 17 64 (dgU true shi slo dhi dlo s d xs) = U) (hUl : U.length = n)
    (hP : ∀ (A : Option Addr) (c : Nat) (w : World), IsB w w.heap.size A n U → n ≤ c → c ≤ maxLen → Calls Try.prog 29 #[.slice A n c] w fun e w' => End2 0 (pkA true 17 shi slo dhi dlo s d 64 0 n) w w' e) :
    ∃ X : List UInt8, (∀ (A : Option Addr) (c : Nat) (w : World), IsB w w.heap.size A n U → n ≤ c → c ≤ maxLen → Calls Try.prog 37 #[.agg #[.bool true, .int .u64 (fhi : Int), .int .u64 (flo : Int)], .int .i64 ttl, .slice A n c, .int .i64 most] w fun e w' => InEnd (ttlK ttl) X w w' e) ∧
      (ttlK ttl = 0 → ∃ K2 y, (K2 = 0 ∨ K2 = 2) ∧ y.size = 23 ∧ y.all (·.oneCell') = true ∧ y[0]? = some (.bool true) ∧ y[12]? = some (.bool true) ∧ (48 ≤ most → K2 = 0) ∧ (K2 = 0 → y = pkG true 58 true fhi flo true shi slo 0 0 ttl 0 true 17 true dhi dlo true shi slo d s X.length) ∧
        ∀ (A : Option Addr) (c : Nat) (w : World), IsB w w.heap.size A X.length X → X.length ≤ c → c ≤ maxLen → Calls Try.prog 29 #[.slice A X.length c] w fun e w' => End2 K2 y w w' e) := by
  obtain ⟨k, hk⟩ : ∃ k : Nat, (k : Int) = min (n : Int) (max most 0) := ⟨(min (n : Int) (max most 0)).toNat, by omega⟩
  obtain ⟨D, hD⟩ : ∃ D, dgU true shi slo dhi dlo s d xs = D := ⟨_, rfl⟩
  have hDl : D.length = 8 + xs.length := hD ▸ dgU_length _ _ _ _ _ _ _ _
  have hg : beN D 0 2 = s ∧ beN D 2 2 = d := by
    rw [← hD]
    unfold dgU
    have := Udp.dg_parse true (aheadB true shi slo dhi dlo 17 (8 + xs.length)) s d xs (by unfold aheadB; rw [if_pos rfl, ps6_even]) hs hd (by omega)
    exact ⟨this.2.1, this.2.2.1⟩
  rw [hD] at hU
  have hU' : Six.allB6 0 0 64 shi slo dhi dlo 17 [] D = U := by
    rw [← hU]
    unfold wrapB
    rw [if_pos rfl]
    rfl
  have hnl : n = 40 + D.length := by rw [← hUl, ← hU', Six.allB6_length]; rfl
  obtain ⟨ds, hds⟩ : ∃ ds, U.take k = ds := ⟨_, rfl⟩
  have hdl : ds.length = k := by rw [← hds, List.length_take, hUl]; omega
  obtain ⟨q1, q2⟩ := quoted6 shi slo dhi dlo s d D (by omega) hg.1 hg.2 b3 b4 b5 b6 k ds (by rw [hU']; exact hds)
  obtain ⟨M, hM⟩ : ∃ M, Icmp.msgB (Six.pseudoB fhi flo shi slo (8 + k) 58) 1 0 0 ds = M := ⟨_, rfl⟩
  have hMl : M.length = k + 8 := by rw [← hM, Icmp.msgB_length, hdl]
  refine ⟨Six.allB6 0 0 ttl.toNat fhi flo shi slo 58 [] M, fun A c w hx hc hcm => ?_, fun hK => ?_⟩
  · have := unreach_six fhi flo ttl n U most k hk (pkA true 17 shi slo dhi dlo s d 64 0 n) shi slo rfl rfl rfl rfl rfl rfl (pkA_one _ _ _ _ _ _ _ _ _ _ _) A c w hx hc hcm (by omega) b1 b2 b3 b4 (fun w hx => hP A c w hx hc hcm)
    rw [hds, hM] at this
    exact this
  unfold ttlK at hK
  split at hK
  case isFalse => omega
  rename_i hh
  obtain ⟨t1, t2⟩ := hh
  obtain ⟨t, rfl⟩ : ∃ t : Nat, ttl = (t : Int) := ⟨ttl.toNat, by omega⟩
  have hXl : (Six.allB6 0 0 t fhi flo shi slo 58 [] M).length = 40 + M.length := by rw [Six.allB6_length]; rfl
  have hw : wrapB true fhi flo shi slo 58 t M = Six.allB6 0 0 t fhi flo shi slo 58 [] M := by
    unfold wrapB
    rw [if_pos rfl]
    rfl
  rw [show ((t : Int).toNat) = t by omega]
  have fin : ∀ (K2 : Nat) (qr : Int) (sv : Bool) (sh sl : Int) (dv : Bool) (dh dl sp dp : Int), Icmp.QuotedIs true 1 ds K2 qr sv sh sl dv dh dl sp dp →
      ∀ (A : Option Addr) (c : Nat) (w : World), IsB w w.heap.size A (Six.allB6 0 0 t fhi flo shi slo 58 [] M).length (Six.allB6 0 0 t fhi flo shi slo 58 [] M) → (Six.allB6 0 0 t fhi flo shi slo 58 [] M).length ≤ c → c ≤ maxLen → Calls Try.prog 29 #[.slice A (Six.allB6 0 0 t fhi flo shi slo 58 [] M).length c] w fun e w' => End2 K2 (errA (p6A 58 fhi flo shi slo t (40 + M.length)) (tuA qr dv dh dl sv sh sl dp sp)) w w' e := by
    intro K2 qr sv sh sl dv dh dl sp dp hQ A c w hx hc hcm
    have hup := upis_msg (p6A 58 fhi flo shi slo t (40 + M.length)) rfl (p6A_one _ _ _ _ _ _ _) true rfl rfl (Six.pseudoB fhi flo shi slo M.length 58) ds (by rw [ps6_even]; omega) (by rw [ps6_even]) (by omega) 1 (by omega) K2 qr sv sh sl dv dh dl sp dp hQ
    have hM8 : Icmp.msgB (Six.pseudoB fhi flo shi slo M.length 58) 1 0 0 ds = M := by rw [hMl, show k + 8 = 8 + k by omega]; exact hM
    rw [show aheadP true (Six.pseudoB fhi flo shi slo M.length 58) = Six.pseudoB fhi flo shi slo M.length 58 from rfl, hM8] at hup
    replace hup : UpIs (p6A 58 fhi flo shi slo t (40 + M.length)) 58 M (Six.pseudoB fhi flo shi slo M.length 58) K2 (errA (p6A 58 fhi flo shi slo t (40 + M.length)) (tuA qr dv dh dl sv sh sl dp sp)) := hup
    rw [← hw] at hx hc ⊢
    exact parse_wrap6 fhi flo shi slo 58 t M b1 b2 b3 b4 (by omega) (by decide) (by omega) (by omega) K2 _ (fun _ => ⟨(FromA.size (.inr (.inr ⟨_, _, _, _, _, _, _, _, _, rfl⟩)) rfl), (FromA.one (.inr (.inr ⟨_, _, _, _, _, _, _, _, _, rfl⟩)) (p6A_one _ _ _ _ _ _ _))⟩) hup A _ c w hx hc hcm
  by_cases h44 : ds.length < 44
  · exact ⟨2, _, .inr rfl, rfl, FromA.one (.inr (.inr ⟨_, _, _, _, _, _, _, _, _, rfl⟩)) (p6A_one _ _ _ _ _ _ _), rfl, rfl, fun h => by omega, fun h => absurd h (by omega), fin _ _ _ _ _ _ _ _ _ _ (q1 h44)⟩
  · exact ⟨0, _, .inl rfl, rfl, FromA.one (.inr (.inr ⟨_, _, _, _, _, _, _, _, _, rfl⟩)) (p6A_one _ _ _ _ _ _ _), rfl, rfl, fun _ => rfl, fun _ => by rw [hXl]; rfl, fin _ _ _ _ _ _ _ _ _ _ (q2 (by omega))⟩
theorem tells_cut (pr : Int) (sv : Bool) (shi slo : Nat) (dv : Bool) (dhi dlo : Nat) (sp dp : Int) (fv : Bool) (fhi flo : Nat) (ttl most : Int) (n0 n c : Nat) (xs : List UInt8) (A : Option Addr) (w : World) (hx : IsB w w.heap.size A n xs) (hn : min n0 500 = n) (hnc : n0 ≤ c) (hcm : c ≤ maxLen)
    (b1 : fhi < 18446744073709551616) (b2 : flo < 18446744073709551616) (b3 : shi < 18446744073709551616) (b4 : slo < 18446744073709551616) (b5 : dhi < 18446744073709551616) (b6 : dlo < 18446744073709551616) :
    Calls Try.prog 10 #[.agg (tuA pr sv shi slo dv dhi dlo sp dp), .agg #[.bool fv, .int .u64 (fhi : Int), .int .u64 (flo : Int)], .int .i64 ttl, .slice A n0 c, .int .i64 most] w fun e w' => e = .returned (.bool true) ∧ Below w.heap.size w w' := by
  have hxl := hx.1
  have hD := fun (w : World) (hx : IsB w w.heap.size A n xs) => datagram_any pr sv shi slo dv dhi dlo sp dp 64 A n c xs w hx (by omega) b3 b4 b5 b6
  by_cases hk : dgmK pr sv shi slo dv dhi dlo sp dp 64 = 0
  case neg => exact tells_none pr sv shi slo dv dhi dlo sp dp fv fhi flo ttl most n0 n c _ xs _ hk A w hx hn hnc hcm hD
  have hh := (dgm_made pr sv shi slo dv dhi dlo sp dp 64).2 hk
  unfold madeP at hh
  obtain ⟨rfl, rfl, a1, a2, a3, a4, a5, a6, -, -, hv⟩ := hh
  obtain ⟨s, rfl⟩ : ∃ s : Nat, sp = (s : Int) := ⟨sp.toNat, by omega⟩
  obtain ⟨d, rfl⟩ : ∃ d : Nat, dp = (d : Int) := ⟨dp.toNat, by omega⟩
  obtain ⟨U, hU⟩ : ∃ U, wrapB sv shi slo dhi dlo 17 64 (dgU sv shi slo dhi dlo s d xs) = U := ⟨_, rfl⟩
  obtain ⟨m, hm⟩ : ∃ m, U.length = m := ⟨_, rfl⟩
  have hml : (if sv = true then 40 else 20) + 8 + xs.length = m := by rw [← hm, ← hU, wrapB_length, dgU_length]; omega
  have hP := fun (A : Option Addr) (c : Nat) (w : World) (hx : IsB w w.heap.size A m U) (hc : m ≤ c) (hcm : c ≤ maxLen) => parse_dgm sv shi slo dhi dlo s d 64 xs (by omega) b3 b4 b5 b6 hk m hml A c w (by rw [hU]; exact hx) hc hcm
  rw [hk, hU] at hD
  have argu := fun (X : List UInt8) (hbad : fv ≠ sv ∨ (ttl < 0 ∨ 255 < ttl ∨ (fv = false ∧ ((fhi : Int) ≠ 0 ∨ 4294967296 ≤ (flo : Int))))) (h : ∀ (A : Option Addr) (c : Nat) (w : World), IsB w w.heap.size A m U → m ≤ c → c ≤ maxLen → Calls Try.prog 37 #[.agg #[.bool fv, .int .u64 (fhi : Int), .int .u64 (flo : Int)], .int .i64 ttl, .slice A m c, .int .i64 most] w fun e w' => InEnd 1 X w w' e) =>
    tells_arg 17 sv shi slo sv dhi dlo s d fv fhi flo ttl most n0 n c m xs U X hm hbad A w hx hn hnc hcm hD h
  by_cases hf : fv = sv
  case neg =>
    exact argu [] (.inl hf) fun A c w hx hc hcm => unreach_no fv fhi flo ttl m U most (pkA sv 17 shi slo dhi dlo s d 64 0 m) sv false rfl rfl (.inl hf) [] rfl (pkA_one _ _ _ _ _ _ _ _ _ _ _) A c w hx (fun w hx => hP A c w hx hc hcm)
  subst hf
  rcases fv with _ | _
  · obtain ⟨e1, e2, e3, e4⟩ := hv.resolve_left (by simp)
    obtain rfl : shi = 0 := by omega
    obtain rfl : dhi = 0 := by omega
    obtain ⟨X, hX, hY⟩ := told4 fhi flo slo dlo s d ttl most xs (by omega) b2 (by omega) (by omega) (by omega) (by omega) U m hU hm hP
    rcases fourK_01 ttl fhi flo (0 : Nat) slo with h0 | h1
    · obtain ⟨K2, y, hK2, y1, y2, y3, y4, y5, y6, y7⟩ := hY h0
      have hok := h0
      unfold fourK at hok
      split at hok
      case isFalse => omega
      rename_i hh
      obtain ⟨t1, t2, o1, o2⟩ := hh
      obtain ⟨rfl, hfl⟩ := okA_four o1
      rw [h0] at hX
      by_cases hms : most < 28
      · exact tells_short 17 (0 : Nat) slo false (0 : Nat) dlo s d false (0 : Nat) flo ttl most n0 n c m X.length K2 xs U X y hm rfl (fun _ => ⟨rfl, by omega⟩) t1 t2 hK2 hms (fun _ => ⟨y1, y2⟩) A w hx hn hnc hcm hD hX y7
      · obtain rfl := y5 (by omega)
        exact tells_good (0 : Nat) slo (0 : Nat) dlo s d false (0 : Nat) flo ttl most n0 n c m X.length xs U X y hm rfl (fun _ => ⟨rfl, by omega⟩) t1 t2 (by simpa using (by omega : 28 ≤ most)) 1 X.length (y6 rfl) [] ⟨y1, y2⟩ A w hx hn hnc hcm hD hX
          (fun A c w hx hc hcm => unreach_no false (0 : Nat) flo ttl X.length X most y false true y3 y4 (.inr rfl) [] y1 y2 A c w hx (fun w hx => y7 A c w hx hc hcm)) y7
    · refine argu X (.inr ?_) (fun A c w hx hc hcm => by have := hX A c w hx hc hcm; rw [h1] at this; exact this)
      unfold fourK at h1
      split at h1
      · omega
      · rename_i hh
        by_cases g1 : ttl < 0
        · exact .inl g1
        by_cases g2 : 255 < ttl
        · exact .inr (.inl g2)
        refine .inr (.inr ⟨rfl, ?_⟩)
        by_cases g3 : (fhi : Int) ≠ 0
        · exact .inl g3
        by_cases g4 : 4294967296 ≤ (flo : Int)
        · exact .inr g4
        obtain rfl : fhi = 0 := by omega
        exact absurd ⟨by omega, by omega, okA_mk (by omega), okA_mk (by omega)⟩ hh
  · obtain ⟨X, hX, hY⟩ := told6 fhi flo shi slo dhi dlo s d ttl most xs (by omega) b1 b2 b3 b4 b5 b6 (by omega) (by omega) U m hU hm hP
    rcases ttlK_01 ttl with h0 | h1
    · obtain ⟨K2, y, hK2, y1, y2, y3, y4, y5, y6, y7⟩ := hY h0
      have hok := h0
      unfold ttlK at hok
      split at hok
      case isFalse => omega
      rename_i hh
      obtain ⟨t1, t2⟩ := hh
      rw [h0] at hX
      by_cases hms : most < 48
      · exact tells_short 17 shi slo true dhi dlo s d true fhi flo ttl most n0 n c m X.length K2 xs U X y hm rfl (fun h => by cases h) t1 t2 hK2 hms (fun _ => ⟨y1, y2⟩) A w hx hn hnc hcm hD hX y7
      · obtain rfl := y5 (by omega)
        exact tells_good shi slo dhi dlo s d true fhi flo ttl most n0 n c m X.length xs U X y hm rfl (fun h => by cases h) t1 t2 (by simpa using (by omega : 48 ≤ most)) 58 X.length (y6 rfl) [] ⟨y1, y2⟩ A w hx hn hnc hcm hD hX
          (fun A c w hx hc hcm => unreach_no true fhi flo ttl X.length X most y true true y3 y4 (.inr rfl) [] y1 y2 A c w hx (fun w hx => y7 A c w hx hc hcm)) y7
    · refine argu X (.inr ?_) (fun A c w hx hc hcm => by have := hX A c w hx hc hcm; rw [h1] at this; exact this)
      unfold ttlK at h1
      split at h1
      · omega
      · rename_i hh
        by_cases g1 : ttl < 0
        · exact .inl g1
        by_cases g2 : 255 < ttl
        · exact .inr (.inl g2)
        · exact absurd ⟨by omega, by omega⟩ hh
theorem tells_go (pr : Int) (sv : Bool) (shi slo : Int) (dv : Bool) (dhi dlo : Int) (sp dp : Int) (fv : Bool) (fhi flo : Int) (ttl : Int) (A : Option Addr) (n0 c : Nat) (xs : List UInt8) (most : Int) (w : World) (_ : (Lit.int .i64 pr).wf = true) (h1 : (Lit.int .u64 shi).wf = true) (h2 : (Lit.int .u64 slo).wf = true) (h3 : (Lit.int .u64 dhi).wf = true) (h4 : (Lit.int .u64 dlo).wf = true)
    (_ : (Lit.int .i64 sp).wf = true) (_ : (Lit.int .i64 dp).wf = true) (h5 : (Lit.int .u64 fhi).wf = true) (h6 : (Lit.int .u64 flo).wf = true) (_ : (Lit.int .i64 ttl).wf = true) (hx : IsB w w.heap.size A n0 xs) (hnc : n0 ≤ c) (hcm : c ≤ maxLen) (_ : (Lit.int .i64 most).wf = true) :
    Calls Try.prog 10 #[.agg #[.int .i64 pr, .bool sv, .int .u64 shi, .int .u64 slo, .bool dv, .int .u64 dhi, .int .u64 dlo, .int .i64 sp, .int .i64 dp], .agg #[.bool fv, .int .u64 fhi, .int .u64 flo], .int .i64 ttl, .slice A n0 c, .int .i64 most] w fun e w' => e = .returned (.bool true) ∧ Below w.heap.size w w' := by
  have a1 := u64_wf h1
  have a2 := u64_wf h2
  have a3 := u64_wf h3
  have a4 := u64_wf h4
  have a5 := u64_wf h5
  have a6 := u64_wf h6
  obtain ⟨b1, rfl⟩ : ∃ b : Nat, shi = (b : Int) := ⟨shi.toNat, by omega⟩
  obtain ⟨b2, rfl⟩ : ∃ b : Nat, slo = (b : Int) := ⟨slo.toNat, by omega⟩
  obtain ⟨b3, rfl⟩ : ∃ b : Nat, dhi = (b : Int) := ⟨dhi.toNat, by omega⟩
  obtain ⟨b4, rfl⟩ : ∃ b : Nat, dlo = (b : Int) := ⟨dlo.toNat, by omega⟩
  obtain ⟨b5, rfl⟩ : ∃ b : Nat, fhi = (b : Int) := ⟨fhi.toNat, by omega⟩
  obtain ⟨b6, rfl⟩ : ∃ b : Nat, flo = (b : Int) := ⟨flo.toNat, by omega⟩
  exact tells_cut pr sv b1 b2 dv b3 b4 sp dp fv b5 b6 ttl most n0 _ c _ A w (hx.take (m := min n0 500) (by omega)) rfl hnc hcm (by omega) (by omega) (by omega) (by omega) (by omega) (by omega)
end Pkt
end Go.Proofs.Ytdmgbngdpjcliaa
