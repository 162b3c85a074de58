/- The statement SixPuts, walked: any header's bytes, and that they are parsed as they were put. Conditions: slices that read as lists, numbers of 64 bits. -/
import Derived.Test.YtniieckjooahfaaSixPutsPlain
import Derived.Test.YtniieckjooahfaaSixSame
namespace Go.Proofs.Ytniieckjooahfaa
open Go.RowKit Go.ChangeShapes Go.WideShapes Go.ChangeAt Go.Deep
namespace Six
set_option maxRecDepth 20000 in
set_option maxHeartbeats 2000000 in
theorem bytes_no (cls lab hop : Int) (sv : Bool) (shi slo : Int) (dv : Bool) (dhi dlo : Int) (X : Option Addr) (n c : Nat) (proto : Int) (es : List Ext) (P : Option Addr) (m d : Nat) (w : World) (hx : IsX w w.heap.size X n es) (hnc : n ≤ c) (hcm : c ≤ maxLen)
    (hr : rightHB cls lab hop sv dv proto (pes es) = false) :
    Calls Try.prog 62 #[hdV cls lab hop sv shi slo dv dhi dlo X n c proto, .slice P m d] w fun e w' => e = .returned (.tuple #[.slice none 0 0, .int .i64 1]) ∧ Below w.heap.size w w' := by
  have hx1 := hx.alloc (hdC cls lab hop sv shi slo dv dhi dlo X n c proto)
  unfold hdC at hx1
  replace hr := hide hr
  replace hx := hide hx
  replace hx1 := hide hx1
  unfold hdV
  go_enter Try.func62, Try.ntmps62
  go_wp2_with fail
  refine (right_any cls lab hop sv shi slo dv dhi dlo X n c proto es _ hx1.out hnc hcm).mono ?_
  rw [hr.out]
  rintro e w1 ⟨rfl, hb1⟩
  have hw1 := ((Below.refl w.heap.size w).alloc (Nat.le_refl _) (hdC cls lab hop sv shi slo dv dhi dlo X n c proto)).trans (hb1.mono (by simp))
  clear hb1
  replace hw1 := hide hw1
  go_wp2_with fail
  go_ret2
  exact ⟨rfl, hw1.out⟩
set_option maxRecDepth 20000 in
set_option maxHeartbeats 4000000 in
theorem puts_no (cls lab hop : Int) (sv : Bool) (shi slo : Int) (dv : Bool) (dhi dlo : Int) (X : Option Addr) (n c : Nat) (proto : Int) (es : List Ext) (P : Option Addr) (m0 d : Nat) (M : Option Addr) (q0 e0 : Nat) (w : World) (hx : IsX w w.heap.size X n es) (hnc : n ≤ c) (hcm : c ≤ maxLen) (hm0 : m0 ≤ maxLen) (hmd : m0 ≤ d)
    (hr : rightHB cls lab hop sv dv proto (pes es) = false) :
    Calls Try.prog 15 #[hdV cls lab hop sv shi slo dv dhi dlo X n c proto, .slice P m0 d, .slice M q0 e0] w fun e w' => e = .returned (.bool true) ∧ Below w.heap.size w w' := by
  obtain ⟨m, hm⟩ : ∃ m, min m0 500 = m := ⟨_, rfl⟩
  obtain ⟨w0, hw0⟩ : ∃ w0, w.alloc (hdC cls lab hop sv shi slo dv dhi dlo X n c proto) = w0 := ⟨_, rfl⟩
  have hb0 : Below w.heap.size w w0 := hw0 ▸ (Below.refl _ _).alloc (Nat.le_refl _) _
  have hg0 := hw0 ▸ blk_new w 99 #[.int .i64 cls, .int .i64 lab, .int .i64 hop, .bool sv, .int .u64 shi, .int .u64 slo, .bool dv, .int .u64 dhi, .int .u64 dlo, .slice X n c, .int .i64 proto]
  have hlt0 : w.heap.size < w0.heap.size := by rw [← hw0]; simp
  unfold hdC at hw0
  have hx0 := hx.on hb0
  have hcg := blk_cell hg0
  replace hr := hide hr
  replace hm := hide hm
  replace hg0 := hide hg0
  replace hb0 := hide hb0
  replace hx0 := hide hx0
  replace hx := hide hx
  unfold hdV
  go_enter Try.func15, Try.ntmps15
  go_wp2_with fail
  refine (cut_as P m0 d m _ hm0 hmd hm.out).mono ?_
  rintro e w' ⟨rfl, rfl⟩
  go_wp2_with fail
  refine (bytes_no cls lab hop sv shi slo dv dhi dlo X n c proto es P m d _ hx0.out hnc hcm hr.out).mono ?_
  rintro e w1 ⟨rfl, hb1⟩
  have hB1 := hb0.out.trans (hb1.mono hb0.out.size)
  have hlt1 := Nat.lt_of_lt_of_le hlt0 hb1.size
  have hg1 := blk_below hb1 hlt0 hg0.out
  have hx1 := hx0.out.on hb1
  have hcl : ∀ (l : Later w1) (o : Nat), l.w.cell? ⟨w.heap.size, o, none⟩ = _ := fun l o => blk_cell (blk_below l.hb hlt1 hg1) o
  clear hb1 hcg hw0
  replace hB1 := hide hB1
  replace hg1 := hide hg1
  replace hx1 := hide hx1
  go_wp2_with fail
  refine wp_region_L (by as_aux_lemma => kernel_rfl) ?_
  refine wpE_seg 0 5 (fuel := 0) (by as_aux_lemma => kernel_rfl) (fun d _ _ _ _ h => by cases d <;> exact h) (by as_aux_lemma => kernel_rfl) (by as_aux_lemma => kernel_rfl) ?_
  simp only [List.drop_succ_cons, List.drop_zero, List.take_succ_cons, List.take_zero]
  iterate 1 (refine wpQE_step (fun K hK => ?_); go_simp; refine hK _ ?_; clear hK K)
  (refine wpQE_step (fun K hK => ?_); go_simp; apply Exists.intro; refine ⟨fun l => ?_, hK _ ?_⟩; (go_at_call 63; refine (right_any cls lab hop sv shi slo dv dhi dlo X n c proto es _ (hx1.out.later l) hnc hcm).mono ?_; rw [hr.out]; rintro e w' ⟨rfl, hb⟩; exact ⟨rfl, hb⟩); clear hK K)
  iterate 1 (refine wpQE_step (fun K hK => ?_); go_simp; refine hK _ ?_; clear hK K)
  (refine wpQE_step (fun K hK => ?_); go_simp; apply Exists.intro; refine ⟨fun l => ?_, hK _ ?_⟩; (go_at_call 64; refine (lawRight_any cls lab hop sv shi slo dv dhi dlo X n c proto es _ (hx1.out.later l) hnc hcm).mono ?_; rw [hr.out]; rintro e w' ⟨rfl, hb⟩; exact ⟨rfl, hb⟩); clear hK K)
  iterate 1 (refine wpQE_step (fun K hK => ?_); go_simp; refine hK _ ?_; clear hK K)
  refine wpQE_nil ?_
  refine wpE_done (by as_aux_lemma => kernel_rfl) (fun w2 hw2 => ?_) 0
  have hg2 := blk_below hw2 hlt1 hg1.out
  have hcg := blk_cell hg2
  have hb2 := hB1.out.trans (hw2.mono hB1.out.size)
  have hx2 := hx1.out.on hw2
  clear hcl hw2
  replace hg2 := hide hg2
  replace hb2 := hide hb2
  replace hx2 := hide hx2
  go_wp2_with fail
  refine (lawRight_any cls lab hop sv shi slo dv dhi dlo X n c proto es _ hx2.out hnc hcm).mono ?_
  rw [hr.out]
  rintro e w3 ⟨rfl, hb3⟩
  clear hcg
  replace hb3 := hide hb3
  go_wp2_with fail
  refine (awake_any _).mono ?_
  rintro e w4 ⟨rfl, hb4⟩
  replace hb4 := hide hb4
  go_wp2_with fail
  go_ret
  exact ⟨rfl, hb2.out.trans ((hb3.out.trans (hb4.out.mono hb3.out.size)).mono hb2.out.size)⟩
set_option maxRecDepth 20000 in
set_option maxHeartbeats 8000000 in
theorem puts_yes (cls lab hop shi slo dhi dlo proto : Nat) (X : Option Addr) (n c : Nat) (es : List Ext) (P : Option Addr) (m0 d : Nat) (ps0 : List UInt8) (M : Option Addr) (q0 e0 : Nat) (ms0 : List UInt8) (w : World)
    (hx : IsX w w.heap.size X n es) (hnc : n ≤ c) (hcm : c ≤ maxLen) (hp0 : IsB w w.heap.size P m0 ps0) (hmd : m0 ≤ d) (hdm : d ≤ maxLen) (hq0 : IsB w w.heap.size M q0 ms0) (hqe : q0 ≤ e0) (hem : e0 ≤ maxLen)
    (b5 : shi < 18446744073709551616) (b6 : slo < 18446744073709551616) (b7 : dhi < 18446744073709551616) (b8 : dlo < 18446744073709551616) (hr : rightHB cls lab hop true true proto (pes es) = true) :
    Calls Try.prog 15 #[hdV cls lab hop true shi slo true dhi dlo X n c proto, .slice P m0 d, .slice M q0 e0] w fun e w' => e = .returned (.bool true) ∧ Below w.heap.size w w' := by
  obtain ⟨⟨r1, r2, r3, r4, r5, r6, _, _, r7, r8, r9, r10⟩, hrt⟩ := rightHB_true hr
  have hall := rightTo_all hrt
  have hall' : ∀ e ∈ es, 0 ≤ e.k ∧ e.k ≤ 255 ∧ e.xs.length ≤ 2047 := fun e he => hall _ (List.mem_map_of_mem he)
  have hk : ∀ e ∈ es, 0 ≤ e.k ∧ e.k ≤ 255 := fun e he => ⟨(hall' e he).1, (hall' e he).2.1⟩
  have hl : ∀ e ∈ es, e.xs.length ≤ 2047 := fun e he => (hall' e he).2.2
  have b1 : cls ≤ 255 := by omega
  have b2 : lab ≤ 1048575 := by omega
  have b3 : hop ≤ 255 := by omega
  have b4 : proto ≤ 255 := by omega
  have hn8 : n ≤ 8 := by rw [← hx.1, ← pes_length]; exact r10
  have hsp := sumP_le (pes es) (fun e he => (hall e he).2.2)
  rw [pes_length, hx.1] at hsp
  obtain ⟨m, hm⟩ : ∃ m, min m0 500 = m := ⟨_, rfl⟩
  obtain ⟨q, hq⟩ : ∃ q, min q0 500 = q := ⟨_, rfl⟩
  obtain ⟨ps, hps⟩ : ∃ ps, ps0.take m = ps := ⟨_, rfl⟩
  obtain ⟨ms, hms⟩ : ∃ ms, ms0.take q = ms := ⟨_, rfl⟩
  have hp : IsB w w.heap.size P m ps := hps ▸ hp0.take (m := m) (by omega)
  have hqq : IsB w w.heap.size M q ms := hms ▸ hq0.take (m := q) (by omega)
  have hm0 : m0 ≤ maxLen := by omega
  have hqm : q0 ≤ maxLen := by omega
  have hm5 : m ≤ 4096 := by omega
  have hq5 : q ≤ 500 := by omega
  have hmd1 : m ≤ d := by omega
  clear hp0 hq0 hps hms r1 r2 r3 r4 r5 r6 r7 r8 r9 r10 hall hall' hrt
  obtain ⟨bs, hbs⟩ : ∃ bs, allB6 cls lab hop shi slo dhi dlo proto (pes es) ps = bs := ⟨_, rfl⟩
  obtain ⟨xs, hxs⟩ : ∃ xs, bs ++ ms = xs := ⟨_, rfl⟩
  obtain ⟨T0, hT0⟩ : ∃ T0, 40 + sumL es = T0 := ⟨_, rfl⟩
  obtain ⟨L, hL⟩ : ∃ L, T0 + m = L := ⟨_, rfl⟩
  have hT2 : T0 ≤ 16424 := by rw [← hT0, sumL_pes]; omega
  have hbsl : bs.length = L := by rw [← hbs, allB6_length, ← sumL_pes, hp.1, hT0]; exact hL
  have hxsl : xs.length = L + q := by rw [← hxs, List.length_append, hbsl, hqq.1]
  have hpl : ps.length ≤ 4096 := by rw [hp.1]; exact hm5
  obtain ⟨g1, g2, _, _, g3, g4, g5, g6, g7, g8, g9⟩ := puts_parse cls lab hop shi slo dhi dlo proto (pes es) ps ms xs hr b5 b6 b7 b8 hpl (by rw [hbs]; exact hxs)
  obtain ⟨_, _, k2, k1, k3, k4, k5, k6, k7, k8, k9⟩ := puts_parse cls lab hop shi slo dhi dlo proto (pes es) ps [] bs hr b5 b6 b7 b8 hpl (by rw [List.append_nil]; exact hbs)
  rw [List.append_nil] at k2
  rw [hxsl] at g1
  rw [hbsl] at k1
  have hparse := fun (A9 : Option Addr) (c9 : Nat) (W : World) (hW : IsB W W.heap.size A9 (L + q) xs) (hc9 : L + q ≤ c9) (hcm9 : c9 ≤ maxLen) => parse_any A9 (L + q) c9 xs W hW hc9 hcm9 (by omega) cls lab hop shi slo dhi dlo g3 g4 g5 g6 g7 g8 g9
  have hquote := fun (A9 : Option Addr) (c9 : Nat) (W : World) (hW : IsB W W.heap.size A9 L bs) (hc9 : L ≤ c9) (hcm9 : c9 ≤ maxLen) => quote_any A9 L c9 bs W hW hc9 hcm9 (by omega) cls lab hop shi slo dhi dlo k3 k4 k5 k6 k7 k8 k9
  rw [g1, g2] at hparse
  rw [k1, k2] at hquote
  clear g1 g2 g3 g4 g5 g6 g7 g8 g9 k1 k2 k3 k4 k5 k6 k7 k8 k9
  obtain ⟨w0, hw0⟩ : ∃ w0, w.alloc (hdC cls lab hop true shi slo true dhi dlo X n c proto) = w0 := ⟨_, rfl⟩
  have hb0 : Below w.heap.size w w0 := hw0 ▸ (Below.refl _ _).alloc (Nat.le_refl _) _
  have hg0 := hw0 ▸ blk_new w 99 #[.int .i64 cls, .int .i64 lab, .int .i64 hop, .bool true, .int .u64 shi, .int .u64 slo, .bool true, .int .u64 dhi, .int .u64 dlo, .slice X n c, .int .i64 proto]
  have hlt0 : w.heap.size < w0.heap.size := by rw [← hw0]; simp
  unfold hdC at hw0
  have hx0 := hx.on hb0
  have hp0 := hp.on hb0
  have hq0' := hqq.on hb0
  have hcg := blk_cell hg0
  clear hx hp hqq
  have hLL : L ≤ 20520 := by omega
  replace hr := hide hr
  replace hm := hide hm
  replace hq := hide hq
  replace hg0 := hide hg0
  replace hb0 := hide hb0
  replace hx0 := hide hx0
  replace hp0 := hide hp0
  replace hq0' := hide hq0'
  replace hk := hide hk
  replace hbs := hide hbs
  replace hxs := hide hxs
  replace hT0 := hide hT0
  replace hL := hide hL
  replace hbsl := hide hbsl
  replace hxsl := hide hxsl
  replace hpl := hide hpl
  replace hparse := hide hparse
  replace hquote := hide hquote
  replace hsp := hide hsp
  unfold hdV
  go_enter Try.func15, Try.ntmps15
  go_wp2_with fail
  refine (cut_as P m0 d m _ hm0 hmd hm.out).mono ?_
  rintro e w' ⟨rfl, rfl⟩
  go_wp2_with fail
  refine (bytes_any cls lab hop true shi slo true dhi dlo X n c proto es P m d ps _ hx0.out hnc hcm hp0.out hmd1 hdm rfl rfl b1 b2 b3 b4 b5 b6 b7 b8 hn8 hm5 hk.out hl hr.out).mono ?_
  rintro e w1 ⟨v1, rfl, hown1, hb1⟩
  rw [hbs.out] at hown1
  obtain ⟨A1, c1, rfl, hc1, hm1, hi1⟩ := hown1.form
  rw [hbsl.out] at hc1 hi1 ⊢
  have hB1 := hb0.out.trans (hb1.mono hb0.out.size)
  have hlt1 := Nat.lt_of_lt_of_le hlt0 hb1.size
  have hg1 := blk_below hb1 hlt0 hg0.out
  have hx1 := hx0.out.on hb1
  have hp1 := hp0.out.on hb1
  have hq1 := hq0'.out.on hb1
  have hcl : ∀ (l : Later w1) (o : Nat), l.w.cell? ⟨w.heap.size, o, none⟩ = _ := fun l o => blk_cell (blk_below l.hb hlt1 hg1) o
  clear hb1 hcg hw0 hown1
  replace hB1 := hide hB1
  replace hg1 := hide hg1
  replace hx1 := hide hx1
  replace hp1 := hide hp1
  replace hq1 := hide hq1
  replace hi1 := hide hi1
  go_wp2_with fail
  refine wp_region_L (by as_aux_lemma => kernel_rfl) ?_
  refine wpE_seg 0 5 (fuel := 0) (by as_aux_lemma => kernel_rfl) (fun d _ _ _ _ h => by cases d <;> exact h) (by as_aux_lemma => kernel_rfl) (by as_aux_lemma => kernel_rfl) ?_
  simp only [List.drop_succ_cons, List.drop_zero, List.take_succ_cons, List.take_zero]
  iterate 1 (refine wpQE_step (fun K hK => ?_); go_simp; refine hK _ ?_; clear hK K)
  (refine wpQE_step (fun K hK => ?_); go_simp; apply Exists.intro; refine ⟨fun l => ?_, hK _ ?_⟩; (go_at_call 63; refine (right_any cls lab hop true shi slo true dhi dlo X n c proto es _ (hx1.out.later l) hnc hcm).mono ?_; rw [hr.out]; rintro e w' ⟨rfl, hb⟩; exact ⟨rfl, hb⟩); clear hK K)
  iterate 1 (refine wpQE_step (fun K hK => ?_); go_simp; refine hK _ ?_; clear hK K)
  (refine wpQE_step (fun K hK => ?_); go_simp; apply Exists.intro; refine ⟨fun l => ?_, hK _ ?_⟩; (go_at_call 64; refine (lawRight_any cls lab hop true shi slo true dhi dlo X n c proto es _ (hx1.out.later l) hnc hcm).mono ?_; rw [hr.out]; rintro e w' ⟨rfl, hb⟩; exact ⟨rfl, hb⟩); clear hK K)
  iterate 1 (refine wpQE_step (fun K hK => ?_); go_simp; refine hK _ ?_; clear hK K)
  refine wpQE_nil ?_
  refine wpE_done (by as_aux_lemma => kernel_rfl) (fun w2 hb2 => ?_) 0
  have hg2 := blk_below hb2 hlt1 hg1.out
  have hlt2 := Nat.lt_of_lt_of_le hlt1 hb2.size
  have hcg := blk_cell hg2
  have hB2 := hB1.out.trans (hb2.mono hB1.out.size)
  have hx2 := hx1.out.on hb2
  have hp2 := hp1.out.on hb2
  have hq2 := hq1.out.on hb2
  have hi2 := hi1.out.on hb2
  clear hcl hb2
  replace hg2 := hide hg2
  replace hB2 := hide hB2
  replace hx2 := hide hx2
  replace hp2 := hide hp2
  replace hq2 := hide hq2
  replace hi2 := hide hi2
  go_wp2_with fail
  refine (lawRight_any cls lab hop true shi slo true dhi dlo X n c proto es _ hx2.out hnc hcm).mono ?_
  rw [hr.out]
  rintro e w3 ⟨rfl, hb3⟩
  have hg3 := blk_below hb3 hlt2 hg2.out
  have hlt3 := Nat.lt_of_lt_of_le hlt2 hb3.size
  have hB3 := hB2.out.trans (hb3.mono hB2.out.size)
  have hx3 := hx2.out.on hb3
  have hp3 := hp2.out.on hb3
  have hq3 := hq2.out.on hb3
  have hi3 := hi2.out.on hb3
  clear hcg hb3
  have hcg := blk_cell hg3
  replace hg3 := hide hg3
  replace hB3 := hide hB3
  replace hx3 := hide hx3
  replace hp3 := hide hp3
  replace hq3 := hide hq3
  replace hi3 := hide hi3
  go_wp2_with fail
  refine (lawBytes_any cls lab hop true shi slo true dhi dlo X n c proto es P m d ps _ hx3.out hnc hcm hp3.out hmd1 hdm rfl rfl b1 b2 b3 b4 b5 b6 b7 b8 hn8 hm5 hk.out hl).mono ?_
  rintro e w4 ⟨v4, rfl, hown4, hb4⟩
  rw [hbs.out] at hown4
  obtain ⟨A4, c4, rfl, hc4, hm4, hi4⟩ := hown4.form
  rw [hbsl.out] at hc4 hi4 ⊢
  have hg4 := blk_below hb4 hlt3 hg3.out
  have hlt4 := Nat.lt_of_lt_of_le hlt3 hb4.size
  have hB4 := hB3.out.trans (hb4.mono hB3.out.size)
  have hx4 := hx3.out.on hb4
  have hp4 := hp3.out.on hb4
  have hq4 := hq3.out.on hb4
  have hj4 := hi3.out.on hb4
  have s1 := hj4.str c1
  have s2 := hi4.str c4
  obtain ⟨zb, hzb⟩ : ∃ z, str bs = z := ⟨_, rfl⟩
  rw [hzb] at s1 s2
  clear hcg hb4 hown4
  have hcg := blk_cell hg4
  replace hg4 := hide hg4
  replace hB4 := hide hB4
  replace hx4 := hide hx4
  replace hp4 := hide hp4
  replace hq4 := hide hq4
  replace hi4 := hide hi4
  replace hj4 := hide hj4
  replace hzb := hide hzb
  go_wp2_with fail
  refine (len_any cls lab hop true shi slo true dhi dlo X n c proto es _ hx4.out hn8 hl T0 hT0.out).mono ?_
  rintro e w6 ⟨rfl, hb6⟩
  have hg6 := blk_below hb6 hlt4 hg4.out
  have hlt6 := Nat.lt_of_lt_of_le hlt4 hb6.size
  have hB6 := hB4.out.trans (hb6.mono hB4.out.size)
  have hx6 := hx4.out.on hb6
  have hp6 := hp4.out.on hb6
  have hq6 := hq4.out.on hb6
  have hi6 := hj4.out.on hb6
  have u1 : ((T0 : Int) != (L : Int) - (m : Int)) = false := by rw [bne_eq_false_iff_eq]; have := hL.out; omega
  clear hcg hb6 s1 s2
  replace hg6 := hide hg6
  replace hB6 := hide hB6
  replace hx6 := hide hx6
  replace hp6 := hide hp6
  replace hq6 := hide hq6
  replace hi6 := hide hi6
  go_wp2_with (at_builtin; refine wpl_src_bv rfl (.tmp 65) (.tmp 66) rfl w6.heap.size (.slice (some ⟨w6.heap.size, 0, none⟩) 0 0) [] bs A1 L c1 (w6.heap.size + 1) rfl rfl ?_ ?_ (by simp) (by simp; omega) ?_)
  · exact OwnB.empty w6 w6.heap.size (Nat.le_refl _)
  · exact (hi6.out.on ((Below.refl _ _).alloc (Nat.le_refl _) _)).more (by simp)
  intro v7 w7 hown7 hg7
  have hb67 : Below w6.heap.size w6 w7 := ((Below.refl _ _).alloc (Nat.le_refl _) _).trans (hg7.below (OwnB.empty w6 w6.heap.size (Nat.le_refl _)) (by simp))
  have hq7 := hq6.out.on hb67
  have hown7' : OwnB w7 w6.heap.size v7 bs := by simpa using hown7
  clear hg7 hown7
  replace hown7' := hide hown7'
  replace hb67 := hide hb67
  replace hq7 := hide hq7
  go_wp2_with fail
  refine (cut_as M q0 e0 q _ hqm hqe hq.out).mono ?_
  rintro e w' ⟨rfl, rfl⟩
  go_wp2_with (at_builtin; refine wpl_src_bv rfl (.tmp 67) (.tmp 69) rfl w6.heap.size v7 bs ms M q e0 w7.heap.size rfl rfl hown7'.out hq7.out hb67.out.size (by rw [hbsl.out]; omega) ?_)
  intro v8 w8 hown8 hg8
  have hb68 := hb67.out.trans (hg8.below hown7'.out hb67.out.size)
  rw [hxs.out] at hown8
  obtain ⟨A8, c8, rfl, hc8, hm8, hi8⟩ := hown8.form
  rw [hxsl.out] at hc8 hi8 ⊢
  clear hg8 hown8
  replace hi8 := hide hi8
  replace hb68 := hide hb68
  go_wp2_with fail
  refine (hparse.out _ _ _ hi8.out hc8 hm8).mono ?_
  rintro e w9 he
  obtain ⟨cl, la, ho, bs1, sh, sl, bd, dh, dl, X9, m9, xc9, nx9, A9, n9, c9, es9, rest9, rfl, hX9, hmx9, hxm9, hr9, hn9, hc9, _, hgood, hb9⟩ := he.form
  obtain ⟨hE9, rfl, rfl, rfl, rfl, rfl, rfl, rfl, rfl, rfl⟩ := hgood rfl
  simp only [Option.some.injEq, Prod.mk.injEq] at hE9
  obtain ⟨hpe9, rfl, rfl⟩ := hE9
  clear he hgood
  obtain ⟨wA, hwA⟩ : ∃ wA, w9.alloc (hdC cls lab hop true shi slo true dhi dlo X9 m9 xc9 proto) = wA := ⟨_, rfl⟩
  have hbA : Below w9.heap.size w9 wA := hwA ▸ (Below.refl _ _).alloc (Nat.le_refl _) _
  have hgA := hwA ▸ blk_new w9 99 #[.int .i64 cls, .int .i64 lab, .int .i64 hop, .bool true, .int .u64 shi, .int .u64 slo, .bool true, .int .u64 dhi, .int .u64 dlo, .slice X9 m9 xc9, .int .i64 proto]
  have hltA : w9.heap.size < wA.heap.size := by rw [← hwA]; simp
  unfold hdC at hwA
  have hb6A := hb68.out.trans ((hb9.trans (hbA.mono hb9.size)).mono hb68.out.size)
  have hXA := hX9.on hbA
  have hrA := hr9.on hbA
  have hiA := hi6.out.on hb6A
  clear hX9 hr9 hb9 hbA
  have hcgA := blk_cell hgA
  replace hgA := hide hgA
  replace hXA := hide hXA
  replace hrA := hide hrA
  replace hiA := hide hiA
  replace hb6A := hide hb6A
  replace hpe9 := hide hpe9
  go_wp2_with fail
  refine (hquote.out _ _ _ hiA.out hc1 hm1).mono ?_
  rintro e wB he
  obtain ⟨cl, la, ho, bs2, sh, sl, bd, dh, dl, XB, mB, xcB, nxB, AB, nB, cB, esB, restB, rfl, hXB, hmxB, hxmB, hrB, hnB, hcB, _, hgood, hbB⟩ := he.form
  obtain ⟨hEB, rfl, rfl, rfl, rfl, rfl, rfl, rfl, rfl, rfl⟩ := hgood rfl
  simp only [Option.some.injEq, Prod.mk.injEq] at hEB
  obtain ⟨hpeB, rfl, rfl⟩ := hEB
  clear he hgood hwA hcgA
  obtain ⟨wC, hwC⟩ : ∃ wC, wB.alloc (hdC cls lab hop true shi slo true dhi dlo XB mB xcB proto) = wC := ⟨_, rfl⟩
  have hbC : Below wB.heap.size wB wC := hwC ▸ (Below.refl _ _).alloc (Nat.le_refl _) _
  have hgC := hwC ▸ blk_new wB 99 #[.int .i64 cls, .int .i64 lab, .int .i64 hop, .bool true, .int .u64 shi, .int .u64 slo, .bool true, .int .u64 dhi, .int .u64 dlo, .slice XB mB xcB, .int .i64 proto]
  have hltC : wB.heap.size < wC.heap.size := by rw [← hwC]; simp
  unfold hdC at hwC
  have hbAC := hbB.trans (hbC.mono hbB.size)
  have hb6C := hb6A.out.trans (hbAC.mono hb6A.out.size)
  have hgAC := blk_below hbAC hltA hgA.out
  have hg6C := blk_below hb6C hlt6 hg6.out
  have hXAC := hXA.out.on hbAC
  have hrAC := hrA.out.on hbAC
  have hXC := hXB.on hbC
  have hrC := hrB.on hbC
  have hxC := hx6.out.on hb6C
  have hpC := hp6.out.on hb6C
  have hltAC := Nat.lt_of_lt_of_le hltA hbAC.size
  have hltwC := Nat.lt_of_lt_of_le hlt6 hb6C.size
  have f1 := blk_cell hgAC
  have f2 := blk_cell hg6C
  have f3 := blk_cell hgC
  clear hXB hrB hbB hbC hbAC
  replace hgC := hide hgC
  replace hgAC := hide hgAC
  replace hg6C := hide hg6C
  replace hXAC := hide hXAC
  replace hrAC := hide hrAC
  replace hXC := hide hXC
  replace hrC := hide hrC
  replace hxC := hide hxC
  replace hpC := hide hpC
  replace hb6C := hide hb6C
  replace hpeB := hide hpeB
  go_wp2_with fail
  refine (same_any cls lab hop true shi slo true dhi dlo X9 m9 xc9 X n c proto es9 es _ hXAC.out hxC.out hpe9.out.symm (by have := hXAC.out.1; have := congrArg List.length hpe9.out; rw [pes_length, pes_length] at this; have := hxC.out.1; omega)).mono ?_
  rintro e wD ⟨rfl, hbD⟩
  clear hwC f1 f2 f3
  have hgCD := blk_below hbD hltC hgC.out
  have hg6D := blk_below hbD hltwC hg6C.out
  have hXD := hXC.out.on hbD
  have hxD := hxC.out.on hbD
  have hrAD := hrAC.out.on hbD
  have hrD := hrC.out.on hbD
  have hpD := hpC.out.on hbD
  have hb6D := hb6C.out.trans (hbD.mono hb6C.out.size)
  have f1 := blk_cell hgCD
  have f2 := blk_cell hg6D
  clear hbD
  replace hgCD := hide hgCD
  replace hg6D := hide hg6D
  replace hXD := hide hXD
  replace hxD := hide hxD
  replace hrAD := hide hrAD
  replace hrD := hide hrD
  replace hpD := hide hpD
  replace hb6D := hide hb6D
  go_wp2_with fail
  refine (same_any cls lab hop true shi slo true dhi dlo XB mB xcB X n c proto esB es _ hXD.out hxD.out hpeB.out.symm (by have := hXD.out.1; have := congrArg List.length hpeB.out; rw [pes_length, pes_length] at this; have := hxD.out.1; omega)).mono ?_
  rintro e wE ⟨rfl, hbE⟩
  clear f1 f2
  have s1 := (hrAD.out.on hbE).str c9
  have s2 := (hrD.out.on hbE).str cB
  have s3 := (hpD.out.on hbE).str d
  obtain ⟨zp, hzp⟩ : ∃ zp, str ps = zp := ⟨_, rfl⟩
  rw [hzp] at s1 s2 s3
  have hb6E := hb6D.out.trans (hbE.mono hb6D.out.size)
  clear hbE
  replace hzp := hide hzp
  replace hb6E := hide hb6E
  go_wp2_with fail
  refine (awake_any _).mono ?_
  rintro e wF ⟨rfl, hbF⟩
  clear s1 s2 s3
  replace hbF := hide hbF
  go_wp2_with fail
  go_ret
  exact ⟨rfl, hB6.out.trans ((hb6E.out.trans (hbF.out.mono hb6E.out.size)).mono hB6.out.size)⟩
theorem puts_walk (cls lab hop : Int) (sv : Bool) (shi slo : Int) (dv : Bool) (dhi dlo : Int) (X : Option Addr) (n c : Nat) (es : List Ext) (proto : Int) (P : Option Addr) (m0 d : Nat) (ps0 : List UInt8) (M : Option Addr) (q0 e0 : Nat) (ms0 : List UInt8) (w : World)
    (_hw1 : (Lit.int .i64 cls).wf = true) (_hw2 : (Lit.int .i64 lab).wf = true) (_hw3 : (Lit.int .i64 hop).wf = true) (hw4 : (Lit.int .u64 shi).wf = true) (hw5 : (Lit.int .u64 slo).wf = true) (hw6 : (Lit.int .u64 dhi).wf = true) (hw7 : (Lit.int .u64 dlo).wf = true)
    (hx : IsX w w.heap.size X n es) (hnc : n ≤ c) (hcm : c ≤ maxLen) (_hw8 : (Lit.int .i64 proto).wf = true) (hp0 : IsB w w.heap.size P m0 ps0) (hmd : m0 ≤ d) (hdm : d ≤ maxLen) (hq0 : IsB w w.heap.size M q0 ms0) (hqe : q0 ≤ e0) (hem : e0 ≤ maxLen) :
    Calls Try.prog 15 #[.agg #[.int .i64 cls, .int .i64 lab, .int .i64 hop, .bool sv, .int .u64 shi, .int .u64 slo, .bool dv, .int .u64 dhi, .int .u64 dlo, .slice X n c, .int .i64 proto], .slice P m0 d, .slice M q0 e0] w fun e w' => e = .returned (.bool true) ∧ Below w.heap.size w w' := by
  rcases hr : rightHB cls lab hop sv dv proto (pes es) with _ | _
  · exact puts_no cls lab hop sv shi slo dv dhi dlo X n c proto es P m0 d M q0 e0 w hx hnc hcm (by omega) hmd hr
  · obtain ⟨⟨r1, r2, r3, r4, r5, r6, rfl, rfl, r7, r8, r9, r10⟩, _⟩ := rightHB_true hr
    have b4 := u64_wf hw4
    have b5 := u64_wf hw5
    have b6 := u64_wf hw6
    have b7 := u64_wf hw7
    obtain ⟨cls, rfl⟩ : ∃ z : Nat, cls = (z : Int) := ⟨cls.toNat, by omega⟩
    obtain ⟨lab, rfl⟩ : ∃ z : Nat, lab = (z : Int) := ⟨lab.toNat, by omega⟩
    obtain ⟨hop, rfl⟩ : ∃ z : Nat, hop = (z : Int) := ⟨hop.toNat, by omega⟩
    obtain ⟨proto, rfl⟩ : ∃ z : Nat, proto = (z : Int) := ⟨proto.toNat, by omega⟩
    obtain ⟨shi, rfl⟩ : ∃ z : Nat, shi = (z : Int) := ⟨shi.toNat, by omega⟩
    obtain ⟨slo, rfl⟩ : ∃ z : Nat, slo = (z : Int) := ⟨slo.toNat, by omega⟩
    obtain ⟨dhi, rfl⟩ : ∃ z : Nat, dhi = (z : Int) := ⟨dhi.toNat, by omega⟩
    obtain ⟨dlo, rfl⟩ : ∃ z : Nat, dlo = (z : Int) := ⟨dlo.toNat, by omega⟩
    exact puts_yes cls lab hop shi slo dhi dlo proto X n c es P m0 d ps0 M q0 e0 ms0 w hx hnc hcm hp0 hmd hdm hq0 hqe hem (by omega) (by omega) (by omega) (by omega) hr
end Six
end Go.Proofs.Ytniieckjooahfaa
