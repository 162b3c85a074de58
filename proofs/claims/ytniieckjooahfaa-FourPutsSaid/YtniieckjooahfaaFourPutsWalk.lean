/- The statement FourPuts, walked: any header's bytes, and that they are parsed as they were put. Conditions: slices of bytes that read as lists, numbers of 64 bits. -/
import Derived.Test.YtniieckjooahfaaFourQuote
import Derived.Test.YtniieckjooahfaaFourAwake
import Derived.Test.YtniieckjooahfaaFourParsesWalk
import Derived.Test.YtniieckjooahfaaFourPutsPlain
import Derived.Test.YtniieckjooahfaaFourRightAny
namespace Go.Proofs.Ytniieckjooahfaa
open Go.RowKit Go.ChangeShapes Go.WideShapes Go.ChangeAt Go.Deep
namespace Four
set_option maxRecDepth 20000 in
set_option maxHeartbeats 2000000 in
theorem bytes_no (tos id : Int) (df mf : Bool) (frag ttl proto : Int) (sv : Bool) (shi slo : Int) (dv : Bool) (dhi dlo : Int) (A : Option Addr) (n c : Nat) (P : Option Addr) (m d : Nat) (w : World) (hn : n ≤ maxLen)
    (hr : rightB tos id frag ttl proto sv shi slo dv dhi dlo n = false) :
    Calls Try.prog 59 #[hdV tos id df mf frag ttl proto sv shi slo dv dhi dlo A n c, .slice P m d] w fun e w' => e = .returned (.tuple #[.slice none 0 0, .int .i64 1]) ∧ Below w.heap.size w w' := by
  replace hr := hide hr
  unfold hdV
  go_enter Try.func59, Try.ntmps59
  go_wp2_with fail
  refine (right_any tos id df mf frag ttl proto sv shi slo dv dhi dlo A n c _ hn).mono ?_
  rw [hr.out]
  rintro e w1 ⟨rfl, hb1⟩
  have hw1 := ((Below.refl w.heap.size w).alloc (Nat.le_refl _) (hdC tos id df mf frag ttl proto sv shi slo dv dhi dlo A n c)).trans (hb1.mono (by simp))
  clear hb1
  replace hw1 := hide hw1
  go_wp2_with fail
  go_ret2
  exact ⟨rfl, hw1.out⟩
set_option maxRecDepth 20000 in
set_option maxHeartbeats 4000000 in
theorem puts_no (tos id : Int) (df mf : Bool) (frag ttl proto : Int) (sv : Bool) (shi slo : Int) (dv : Bool) (dhi dlo : Int) (A : Option Addr) (n c : Nat) (P : Option Addr) (m0 d : Nat) (M : Option Addr) (q0 e0 : Nat) (w : World) (hn : n ≤ maxLen) (hm0 : m0 ≤ maxLen) (hmd : m0 ≤ d)
    (hr : rightB tos id frag ttl proto sv shi slo dv dhi dlo n = false) :
    Calls Try.prog 14 #[hdV tos id df mf frag ttl proto sv shi slo dv dhi dlo A n c, .slice P m0 d, .slice M q0 e0] w fun e w' => e = .returned (.bool true) ∧ Below w.heap.size w w' := by
  obtain ⟨m, hm⟩ : ∃ m, min m0 300 = m := ⟨_, rfl⟩
  have hbox := blk_new w 86 #[.int .i64 tos, .int .i64 id, .bool df, .bool mf, .int .i64 frag, .int .i64 ttl, .int .i64 proto, .bool sv, .int .u64 shi, .int .u64 slo, .bool dv, .int .u64 dhi, .int .u64 dlo, .slice A n c]
  replace hr := hide hr
  replace hm := hide hm
  replace hbox := hide hbox
  unfold hdV
  go_enter Try.func14, Try.ntmps14
  go_wp2_with fail
  refine (cut_as P m0 d m _ hm0 hmd hm.out).mono ?_
  rintro e w' ⟨rfl, rfl⟩
  go_wp2_with fail
  refine (bytes_no tos id df mf frag ttl proto sv shi slo dv dhi dlo A n c P m d _ hn hr.out).mono ?_
  rintro e w1 ⟨rfl, hb1⟩
  have hw1 := ((Below.refl w.heap.size w).alloc (Nat.le_refl _) (hdC tos id df mf frag ttl proto sv shi slo dv dhi dlo A n c)).trans (hb1.mono (by simp))
  have hlt1 : w.heap.size < w1.heap.size := by have := hb1.size; simp only [World.size_alloc] at this; omega
  have hg1 := blk_below hb1 (by simp) hbox.out
  have hcl : ∀ (l : Later w1) (o : Nat), l.w.cell? ⟨w.heap.size, o, none⟩ = _ := fun l o => blk_cell (blk_below l.hb hlt1 hg1) o
  clear hb1
  replace hw1 := hide hw1
  replace hg1 := hide hg1
  go_wp2_with fail
  refine wp_region_L (by as_aux_lemma => kernel_rfl) ?_
  refine wpE_seg 0 5 (fuel := 0) (by as_aux_lemma => kernel_rfl) (fun d _ _ _ _ h => by cases d <;> exact h) (by as_aux_lemma => kernel_rfl) (by as_aux_lemma => kernel_rfl) ?_
  simp only [List.drop_zero, List.take_succ_cons, List.take_zero]
  iterate 1 (refine wpQE_step (fun K hK => ?_); go_simp; refine hK _ ?_; clear hK K)
  (refine wpQE_step (fun K hK => ?_); go_simp; apply Exists.intro; refine ⟨fun l => ?_, hK _ ?_⟩; (go_at_call 60; refine (right_any tos id df mf frag ttl proto sv shi slo dv dhi dlo A n c _ hn).mono ?_; rw [hr.out]; rintro e w' ⟨rfl, hb⟩; exact ⟨rfl, hb⟩); clear hK K)
  iterate 1 (refine wpQE_step (fun K hK => ?_); go_simp; refine hK _ ?_; clear hK K)
  (refine wpQE_step (fun K hK => ?_); go_simp; apply Exists.intro; refine ⟨fun l => ?_, hK _ ?_⟩; (go_at_call 50; refine (lawRight_any tos id df mf frag ttl proto sv shi slo dv dhi dlo A n c _ hn).mono ?_; rw [hr.out]; rintro e w' ⟨rfl, hb⟩; exact ⟨rfl, hb⟩); clear hK K)
  iterate 1 (refine wpQE_step (fun K hK => ?_); go_simp; refine hK _ ?_; clear hK K)
  refine wpQE_nil ?_
  refine wpE_done (by as_aux_lemma => kernel_rfl) (fun w2 hw2 => ?_) 0
  have hg2 := blk_below hw2 hlt1 hg1.out
  have hcg := blk_cell hg2
  have hb2 := hw1.out.trans (hw2.mono hw1.out.size)
  have hlt2 := Nat.lt_of_lt_of_le hlt1 hw2.size
  clear hcl hw2
  replace hg2 := hide hg2
  replace hb2 := hide hb2
  go_wp2_with fail
  refine (lawRight_any tos id df mf frag ttl proto sv shi slo dv dhi dlo A n c _ hn).mono ?_
  rw [hr.out]
  rintro e w3 ⟨rfl, hb3⟩
  clear hcg
  replace hb3 := hide hb3
  go_wp2_with fail
  refine (awake_any _).mono ?_
  rintro e w4 ⟨rfl, hb4⟩
  replace hb4 := hide hb4
  go_wp2_with fail
  go_ret
  exact ⟨rfl, hb2.out.trans ((hb3.out.trans (hb4.out.mono hb3.out.size)).mono hb2.out.size)⟩
set_option maxRecDepth 20000 in
set_option maxHeartbeats 8000000 in
theorem puts_yes (tos id : Nat) (df mf : Bool) (frag ttl proto slo dlo fl : Nat) (hfl : flI df mf frag = (fl : Int)) (A : Option Addr) (n c : Nat) (os : List UInt8) (P : Option Addr) (m0 d : Nat) (ps0 : List UInt8) (M : Option Addr) (q0 e0 : Nat) (ms0 : List UInt8) (w : World)
    (h1 : tos ≤ 255) (h2 : id ≤ 65535) (h3 : frag ≤ 8191) (h4 : ttl ≤ 255) (h5 : proto ≤ 255) (h6 : slo < 4294967296) (h7 : dlo < 4294967296) (h8 : n ≤ 40) (h9 : n % 4 = 0)
    (ho : IsB w w.heap.size A n os) (hp0 : IsB w w.heap.size P m0 ps0) (hmd : m0 ≤ d) (hdm : d ≤ maxLen) (hq0 : IsB w w.heap.size M q0 ms0) (hqe : q0 ≤ e0) (hem : e0 ≤ maxLen) :
    Calls Try.prog 14 #[hdV tos id df mf frag ttl proto false 0 slo false 0 dlo A n c, .slice P m0 d, .slice M q0 e0] w fun e w' => e = .returned (.bool true) ∧ Below w.heap.size w w' := by
  obtain ⟨m, hm⟩ : ∃ m, min m0 300 = m := ⟨_, rfl⟩
  obtain ⟨q, hq⟩ : ∃ q, min q0 300 = q := ⟨_, rfl⟩
  obtain ⟨ps, hps⟩ : ∃ ps, ps0.take m = ps := ⟨_, rfl⟩
  obtain ⟨ms, hms⟩ : ∃ ms, ms0.take q = ms := ⟨_, rfl⟩
  have hp : IsB w w.heap.size P m ps := hps ▸ hp0.take (m := m) (by omega)
  have hqq : IsB w w.heap.size M q ms := hms ▸ hq0.take (m := q) (by omega)
  have hm0 : m0 ≤ maxLen := by omega
  have hqm : q0 ≤ maxLen := by omega
  have hm3 : m ≤ 300 := by omega
  have hq3 : q ≤ 300 := by omega
  have hmd1 : m ≤ d := by omega
  clear hp0 hq0 hps hms
  obtain ⟨w1, hw1'⟩ : ∃ w1, w.alloc (hdC tos id df mf frag ttl proto false 0 slo false 0 dlo A n c) = w1 := ⟨_, rfl⟩
  have hb1 : Below w.heap.size w w1 := hw1' ▸ (Below.refl _ _).alloc (Nat.le_refl _) _
  have hg1 := hw1' ▸ blk_new w 86 #[.int .i64 tos, .int .i64 id, .bool df, .bool mf, .int .i64 frag, .int .i64 ttl, .int .i64 proto, .bool false, .int .u64 0, .int .u64 slo, .bool false, .int .u64 0, .int .u64 dlo, .slice A n c]
  have hlt1 : w.heap.size < w1.heap.size := by rw [← hw1']; simp
  unfold hdC at hw1'
  obtain ⟨f1, f2, f3, f4⟩ := fl_parts df mf frag fl h3 hfl
  obtain ⟨bl, hbl⟩ : ∃ bl, 20 + n + m = bl := ⟨_, rfl⟩
  obtain ⟨bs, hbs⟩ : ∃ bs, hdB tos id fl ttl proto slo dlo os m ++ ps = bs := ⟨_, rfl⟩
  obtain ⟨xs, hxs⟩ : ∃ xs, bs ++ ms = xs := ⟨_, rfl⟩
  have hbsl : bs.length = bl := by rw [← hbs, List.length_append, hdB_length, ho.1, hp.1]; exact hbl
  have hxsl : xs.length = bl + q := by rw [← hxs, List.length_append, hbsl, hqq.1]
  obtain ⟨g1, g2, g3, g4, g5, g6, g7, g8, g9, g10, g11, g12, g13, g14, g15⟩ := puts_get tos id fl ttl proto slo dlo os ps ms n m ho.1 hp.1 h1 h2 f1 h4 h5 h6 h7 h8 h9 hm3 xs (by rw [hbs]; exact hxs)
  obtain ⟨k1, k2, k3, k4, k5, k6, k7, k8, k9, k10, k11, k12, k13, k14, k15⟩ := puts_get tos id fl ttl proto slo dlo os ps [] n m ho.1 hp.1 h1 h2 f1 h4 h5 h6 h7 h8 h9 hm3 bs (by rw [List.append_nil]; exact hbs)
  rw [hbl] at g3 g14 k3 k14
  rw [List.append_nil] at k15
  have hparse := fun (A9 : Option Addr) (c9 : Nat) (W : World) (hW : IsB W W.heap.size A9 (bl + q) xs) (hc9 : bl + q ≤ c9) => parse_okL A9 (bl + q) c9 xs W hW hc9 (by omega) (by omega) g1 (20 + n) g2 (by omega) (by omega) g4 bl g3 (by omega) (by omega) g5 tos id fl ttl proto slo dlo g6 g7 g8 g9 g10 g11 g12 df mf frag f2 f3 f4 n m (by omega) (by omega)
  have hquote := fun (A9 : Option Addr) (c9 : Nat) (W : World) (hW : IsB W W.heap.size A9 bl bs) (hc9 : bl ≤ c9) (hc9m : c9 ≤ maxLen) => quote_okL A9 bl c9 bs W hW hc9 hc9m (by omega) (by omega) k1 (20 + n) k2 (by omega) (by omega) tos id fl ttl proto slo dlo k6 k7 k8 k9 k10 k11 k12 df mf frag f2 f3 f4 n m (by omega) (by omega)
  rw [g13, g14] at hparse
  rw [k13, k15] at hquote
  clear g1 g2 g3 g4 g5 g6 g7 g8 g9 g10 g11 g12 g13 g14 g15 k1 k2 k3 k4 k5 k6 k7 k8 k9 k10 k11 k12 k13 k14 k15 f1 f2 f3 f4
  have ho1 := ho.on hb1
  have hp1 := hp.on hb1
  have hq1 := hqq.on hb1
  have hblq : bl ≤ 360 := by omega
  replace hparse := hide hparse
  replace hquote := hide hquote
  replace hm := hide hm
  replace hq := hide hq
  replace hbs := hide hbs
  replace hxs := hide hxs
  replace hbsl := hide hbsl
  replace hxsl := hide hxsl
  replace ho1 := hide ho1
  replace hp1 := hide hp1
  replace hq1 := hide hq1
  have hcg1 := blk_cell hg1
  replace hg1 := hide hg1
  replace hb1 := hide hb1
  replace hfl := hide hfl
  replace h9 := hide h9
  clear ho hp hqq
  have hnb : n ≤ 1099511627776 := by omega
  have hbl20 : 20 + n + m ≤ 65535 := by omega
  replace hbl := hide hbl
  unfold hdV
  go_enter Try.func14, Try.ntmps14
  go_wp2_with fail
  refine (cut_as P m0 d m _ hm0 hmd hm.out).mono ?_
  rintro e w' ⟨rfl, rfl⟩
  go_wp2_with fail
  refine (bytes_yes tos id df mf frag ttl proto slo dlo fl hfl.out A n c os P m d ps _ h1 h2 h3 h4 h5 h6 h7 h8 h9.out ho1.out hp1.out hbl20).mono ?_
  rintro e w2 ⟨v2, rfl, hown2, hb2⟩
  clear hw1' hcg1
  rw [hbs.out] at hown2
  obtain ⟨A2, c2, rfl, hc2, hm2, hi2⟩ := hown2.form
  rw [hbsl.out] at hc2 hi2 ⊢
  have hlt2 := Nat.lt_of_lt_of_le hlt1 hb2.size
  have hg2 := blk_below hb2 hlt1 hg1.out
  have ho2 := ho1.out.on hb2
  have hp2 := hp1.out.on hb2
  have hq2 := hq1.out.on hb2
  have hB2 := hb1.out.trans (hb2.mono hb1.out.size)
  have hcl : ∀ (l : Later w2) (o : Nat), l.w.cell? ⟨w.heap.size, o, none⟩ = _ := fun l o => blk_cell (blk_below l.hb hlt2 hg2) o
  clear hown2
  replace hg2 := hide hg2
  replace ho2 := hide ho2
  replace hp2 := hide hp2
  replace hq2 := hide hq2
  replace hi2 := hide hi2
  replace hB2 := hide hB2
  replace hb2 := hide hb2
  go_wp2_with fail
  refine wp_region_L (by as_aux_lemma => kernel_rfl) ?_
  refine wpE_seg 0 5 (fuel := 0) (by as_aux_lemma => kernel_rfl) (fun d _ _ _ _ h => by cases d <;> exact h) (by as_aux_lemma => kernel_rfl) (by as_aux_lemma => kernel_rfl) ?_
  simp only [List.drop_zero, List.take_succ_cons, List.take_zero]
  iterate 1 (refine wpQE_step (fun K hK => ?_); go_simp; refine hK _ ?_; clear hK K)
  (refine wpQE_step (fun K hK => ?_); go_simp; apply Exists.intro; refine ⟨fun l => ?_, hK _ ?_⟩; (go_at_call 60; refine (right_yes tos id df mf frag ttl proto slo dlo A n c _ (by omega) (by omega) (by omega) (by omega) (by omega) (by omega) (by omega) (by omega) (by omega) (by omega) (by omega) (by omega) h8 h9.out).mono ?_; rintro e w' ⟨rfl, hb⟩; exact ⟨rfl, hb⟩); clear hK K)
  iterate 1 (refine wpQE_step (fun K hK => ?_); go_simp; refine hK _ ?_; clear hK K)
  (refine wpQE_step (fun K hK => ?_); go_simp; apply Exists.intro; refine ⟨fun l => ?_, hK _ ?_⟩; (go_at_call 50; refine (lawRight_yes tos id df mf frag ttl proto slo dlo A n c _ (by omega) (by omega) (by omega) (by omega) (by omega) (by omega) (by omega) (by omega) (by omega) (by omega) (by omega) (by omega) h8 h9.out).mono ?_; rintro e w' ⟨rfl, hb⟩; exact ⟨rfl, hb⟩); clear hK K)
  iterate 1 (refine wpQE_step (fun K hK => ?_); go_simp; refine hK _ ?_; clear hK K)
  refine wpQE_nil ?_
  refine wpE_done (by as_aux_lemma => kernel_rfl) (fun w3 hb3 => ?_) 0
  have hlt3 := Nat.lt_of_lt_of_le hlt2 hb3.size
  have hg3 := blk_below hb3 hlt2 hg2.out
  have hcg := blk_cell hg3
  have hB3 := hB2.out.trans (hb3.mono hB2.out.size)
  have ho3 := ho2.out.on hb3
  have hp3 := hp2.out.on hb3
  have hq3' := hq2.out.on hb3
  have hi3 := hi2.out.on hb3
  clear hcl hb3
  replace hg3 := hide hg3
  replace ho3 := hide ho3
  replace hp3 := hide hp3
  replace hq3' := hide hq3'
  replace hi3 := hide hi3
  replace hB3 := hide hB3
  go_wp2_with fail
  refine (lawRight_yes tos id df mf frag ttl proto slo dlo A n c _ (by omega) (by omega) (by omega) (by omega) (by omega) (by omega) (by omega) (by omega) (by omega) (by omega) (by omega) (by omega) h8 h9.out).mono ?_
  rintro e w4 ⟨rfl, hb4⟩
  have hlt4 := Nat.lt_of_lt_of_le hlt3 hb4.size
  have hg4 := blk_below hb4 hlt3 hg3.out
  have hB4 := hB3.out.trans (hb4.mono hB3.out.size)
  have ho4 := ho3.out.on hb4
  have hp4 := hp3.out.on hb4
  have hq4 := hq3'.out.on hb4
  have hi4 := hi3.out.on hb4
  have hcl : ∀ (l : Later w4) (o : Nat), l.w.cell? ⟨w.heap.size, o, none⟩ = _ := fun l o => blk_cell (blk_below l.hb hlt4 hg4) o
  obtain ⟨zb, hzb⟩ : ∃ zb, str bs = zb := ⟨_, rfl⟩
  have hs4 := fun l : Later w4 => (hi4.later l).str c2
  rw [hzb] at hs4
  clear hcg hb4
  replace hg4 := hide hg4
  replace ho4 := hide ho4
  replace hp4 := hide hp4
  replace hq4 := hide hq4
  replace hi4 := hide hi4
  replace hB4 := hide hB4
  replace hzb := hide hzb
  go_wp2_with fail
  refine wp_region_L (by as_aux_lemma => kernel_rfl) ?_
  refine wpE_seg 0 7 (fuel := 13) (by as_aux_lemma => kernel_rfl) (fun d _ _ _ _ h => by cases d <;> exact h) (by as_aux_lemma => kernel_rfl) (by as_aux_lemma => kernel_rfl) ?_
  simp only [List.drop_zero, List.take_succ_cons, List.take_zero]
  iterate 7 (refine wpQE_step (fun K hK => ?_); go_simp; refine hK _ ?_; clear hK K)
  refine wpQE_nil ?_
  refine wpE_step 7 (fuel := 12) rfl (by as_aux_lemma => kernel_rfl) (fun l K hK => ?_)
  go_simp
  go_at_call 49
  refine (lawBytes_any tos id df mf frag ttl proto slo dlo fl hfl.out A n c os P m d ps _ h1 h2 h3 h4 h5 h6 h7 h8 (ho4.out.later l) (hp4.out.later l) hm3).mono ?_
  rintro e w5 ⟨v5, rfl, hown5, hb5⟩
  rw [hbs.out] at hown5
  obtain ⟨A5, c5, rfl, _, _, hi5⟩ := hown5.form
  rw [hbsl.out] at hi5 ⊢
  refine hK _ _ hb5 ?_
  clear hK K
  have hb45 : Below w4.heap.size w4 w5 := l.hb.trans (hb5.mono l.hb.size)
  have hlt5 := Nat.lt_of_lt_of_le hlt4 hb45.size
  have hg5 := blk_below hb45 hlt4 hg4.out
  have hcl5 : ∀ (l : Later w5) (o : Nat), l.w.cell? ⟨w.heap.size, o, none⟩ = _ := fun l o => blk_cell (blk_below l.hb hlt5 hg5) o
  have hs5 := fun l : Later w5 => (hi5.later l).str c5
  rw [hzb.out] at hs5
  clear hcl hs4 hb5 hown5 hi5
  replace hg5 := hide hg5
  refine wpE_seg 8 12 (fuel := 0) (by as_aux_lemma => kernel_rfl) (fun d _ _ _ _ h => by cases d <;> exact h) (by as_aux_lemma => kernel_rfl) (by as_aux_lemma => kernel_rfl) ?_
  simp only [List.drop_succ_cons, List.drop_zero, List.take_succ_cons, List.take_zero]
  iterate 5 (refine wpQE_step (fun K hK => ?_); go_simp; refine hK _ ?_; clear hK K)
  (refine wpQE_step (fun K hK => ?_); go_simp; apply Exists.intro; refine ⟨fun l => ?_, hK _ ?_⟩; (go_at_call 56; refine (len_any tos id df mf frag ttl proto false 0 slo false 0 dlo A n c _ hnb).mono ?_; rintro e w' ⟨rfl, hb⟩; exact ⟨rfl, hb⟩); clear hK K)
  have hwn : IntKind.i64.wrap (20 + (n : Int)) = 20 + (n : Int) := wraps62 _ (by omega) (by omega)
  iterate 6 (refine wpQE_step (fun K hK => ?_); go_simp; refine hK _ ?_; clear hK K)
  refine wpQE_nil ?_
  refine wpE_done (by as_aux_lemma => kernel_rfl) (fun w6 hb6 => ?_) 0
  have hb46 := hb45.trans (hb6.mono hb45.size)
  have hlt6 := Nat.lt_of_lt_of_le hlt4 hb46.size
  have hg6 := blk_below hb46 hlt4 hg4.out
  have hB6 := hB4.out.trans (hb46.mono hB4.out.size)
  have ho6 := ho4.out.on hb46
  have hp6 := hp4.out.on hb46
  have hq6 := hq4.out.on hb46
  have hi6 := hi4.out.on hb46
  clear hcl5 hs5 hb6 hb46 hb45 hwn
  replace hg6 := hide hg6
  replace ho6 := hide ho6
  replace hp6 := hide hp6
  replace hq6 := hide hq6
  replace hi6 := hide hi6
  replace hB6 := hide hB6
  go_wp2_with (at_builtin; refine wpl_src_bv rfl (.tmp 62) (.tmp 63) rfl w6.heap.size _ [] bs _ _ _ (w6.heap.size + 1) rfl rfl ?_ ?_ ?_ ?_ ?_)
  · exact OwnB.empty w6 w6.heap.size (Nat.le_refl _)
  · exact (hi6.out.on ((Below.refl _ _).alloc (Nat.le_refl _) _)).more (by simp)
  · simp
  · simp; omega
  intro v7 w7 hown7 hg7
  have hb67 : Below w6.heap.size w6 w7 := ((Below.refl _ _).alloc (Nat.le_refl _) _).trans (hg7.below (OwnB.empty w6 w6.heap.size (Nat.le_refl _)) (by simp))
  have hq7 := hq6.out.on hb67
  clear hg7
  replace hown7 := hide hown7
  replace hb67 := hide hb67
  replace hq7 := hide hq7
  go_wp2_with fail
  refine (cut_as M q0 e0 q _ hqm hqe hq.out).mono ?_
  rintro e w' ⟨rfl, rfl⟩
  go_wp2_with (at_builtin; refine wpl_src_bv rfl (.tmp 64) (.tmp 66) rfl w6.heap.size _ bs ms _ _ _ w7.heap.size rfl rfl hown7.out hq7.out ?_ ?_ ?_)
  · exact hb67.out.size
  · rw [hbsl.out]; omega
  intro v8 w8 hown8 hg8
  have hb68 := hb67.out.trans (hg8.below hown7.out hb67.out.size)
  rw [hxs.out] at hown8
  obtain ⟨A8, c8, rfl, hc8, _, hi8⟩ := hown8.form
  rw [hxsl.out] at hc8 hi8 ⊢
  clear hg8 hown8
  replace hi8 := hide hi8
  replace hb68 := hide hb68
  go_wp2_with fail
  refine (hparse.out _ _ _ hi8.out hc8).mono ?_
  rintro e w9 ⟨A9, c9, A9', c9', rfl, hj9, hc9, hcm9, hr9, hb9⟩
  obtain ⟨wA, hwA⟩ : ∃ wA, w9.alloc (hdC tos id df mf frag ttl proto false 0 slo false 0 dlo A9 n c9) = wA := ⟨_, rfl⟩
  have hbA : Below w9.heap.size w9 wA := hwA ▸ (Below.refl _ _).alloc (Nat.le_refl _) _
  have hgA := hwA ▸ blk_new w9 86 #[.int .i64 tos, .int .i64 id, .bool df, .bool mf, .int .i64 frag, .int .i64 ttl, .int .i64 proto, .bool false, .int .u64 0, .int .u64 slo, .bool false, .int .u64 0, .int .u64 dlo, .slice A9 n c9]
  have hltA : w9.heap.size < wA.heap.size := by rw [← hwA]; simp
  unfold hdC at hwA
  have hb6A := hb68.out.trans ((hb9.trans (hbA.mono hb9.size)).mono hb68.out.size)
  have hjA := hj9.on hbA
  have hrA := hr9.on hbA
  have hiA := hi6.out.on hb6A
  clear hj9 hr9 hb9 hbA
  have hcgA := blk_cell hgA
  replace hgA := hide hgA
  replace hjA := hide hjA
  replace hrA := hide hrA
  replace hiA := hide hiA
  replace hb6A := hide hb6A
  go_wp2_with fail
  refine (hquote.out _ _ _ hiA.out hc2 hm2).mono ?_
  rintro e wB ⟨AB, cB, AB', cB', rfl, hjB, hcB, hcmB, hrB, hbB⟩
  clear hwA hcgA
  obtain ⟨wC, hwC⟩ : ∃ wC, wB.alloc (hdC tos id df mf frag ttl proto false 0 slo false 0 dlo AB n cB) = wC := ⟨_, rfl⟩
  have hbC : Below wB.heap.size wB wC := hwC ▸ (Below.refl _ _).alloc (Nat.le_refl _) _
  have hgC := hwC ▸ blk_new wB 86 #[.int .i64 tos, .int .i64 id, .bool df, .bool mf, .int .i64 frag, .int .i64 ttl, .int .i64 proto, .bool false, .int .u64 0, .int .u64 slo, .bool false, .int .u64 0, .int .u64 dlo, .slice AB n cB]
  have hltC : wB.heap.size < wC.heap.size := by rw [← hwC]; simp
  unfold hdC at hwC
  have hbAC := hbB.trans (hbC.mono hbB.size)
  have hb6C := hb6A.out.trans (hbAC.mono hb6A.out.size)
  have hgAC := blk_below hbAC hltA hgA.out
  have hg3C := blk_below hb6C hlt6 hg6.out
  have hjAC := hjA.out.on hbAC
  have hrAC := hrA.out.on hbAC
  have hjC := hjB.on hbC
  have hrC := hrB.on hbC
  have hoC := ho6.out.on hb6C
  have hpC := hp6.out.on hb6C
  have hltAC := Nat.lt_of_lt_of_le hltA hbAC.size
  have hltwC := Nat.lt_of_lt_of_le hlt6 hb6C.size
  have c1 := blk_cell hgAC
  have c2' := blk_cell hg3C
  clear hjB hrB hbB hbC hbAC
  replace hgC := hide hgC
  replace hgAC := hide hgAC
  replace hg3C := hide hg3C
  replace hjAC := hide hjAC
  replace hrAC := hide hrAC
  replace hjC := hide hjC
  replace hrC := hide hrC
  replace hoC := hide hoC
  replace hpC := hide hpC
  replace hb6C := hide hb6C
  go_wp2_with fail
  refine (same_eq tos id df mf frag ttl proto false 0 slo false 0 dlo A9 A n n c9 c os _ hjAC.out hoC.out).mono ?_
  rintro e wD ⟨rfl, hbD⟩
  clear hwC c1 c2'
  have hgCD := blk_below hbD hltC hgC.out
  have hg3D := blk_below hbD hltwC hg3C.out
  have hjD := hjC.out.on hbD
  have hoD := hoC.out.on hbD
  have hrAD := hrAC.out.on hbD
  have hrD := hrC.out.on hbD
  have hpD := hpC.out.on hbD
  have hb6D := hb6C.out.trans (hbD.mono hb6C.out.size)
  have c1 := blk_cell hgCD
  have c2' := blk_cell hg3D
  clear hbD
  replace hgCD := hide hgCD
  replace hg3D := hide hg3D
  replace hjD := hide hjD
  replace hoD := hide hoD
  replace hrAD := hide hrAD
  replace hrD := hide hrD
  replace hpD := hide hpD
  replace hb6D := hide hb6D
  go_wp2_with fail
  refine (same_eq tos id df mf frag ttl proto false 0 slo false 0 dlo AB A n n cB c os _ hjD.out hoD.out).mono ?_
  rintro e wE ⟨rfl, hbE⟩
  clear c1 c2'
  have s1 := (hrAD.out.on hbE).str c9'
  have s2 := (hrD.out.on hbE).str cB'
  have s3 := (hpD.out.on hbE).str d
  obtain ⟨zp, hzp⟩ : ∃ zp, str ps = zp := ⟨_, rfl⟩
  rw [hzp] at s1 s2 s3
  have hb6E := hb6D.out.trans (hbE.mono hb6D.out.size)
  clear hbE
  replace hzp := hide hzp
  replace hb6E := hide hb6E
  go_wp2_with fail
  refine (awake_any _).mono ?_
  rintro e wF ⟨rfl, hbF⟩
  clear s1 s2 s3
  replace hbF := hide hbF
  go_wp2_with fail
  go_ret
  exact ⟨rfl, hB6.out.trans ((hb6E.out.trans (hbF.out.mono hb6E.out.size)).mono hB6.out.size)⟩
theorem puts_walk (tos id : Int) (df mf : Bool) (frag ttl proto : Int) (sv : Bool) (shi slo : Int) (dv : Bool) (dhi dlo : Int) (A : Option Addr) (n c : Nat) (os : List UInt8) (P : Option Addr) (m0 d : Nat) (ps0 : List UInt8) (M : Option Addr) (q0 e0 : Nat) (ms0 : List UInt8) (w : World)
    (hw1 : (Lit.int .i64 tos).wf = true) (hw2 : (Lit.int .i64 id).wf = true) (hw3 : (Lit.int .i64 frag).wf = true) (hw4 : (Lit.int .i64 ttl).wf = true) (hw5 : (Lit.int .i64 proto).wf = true) (hw6 : (Lit.int .u64 shi).wf = true) (hw7 : (Lit.int .u64 slo).wf = true) (hw8 : (Lit.int .u64 dhi).wf = true) (hw9 : (Lit.int .u64 dlo).wf = true)
    (ho : IsB w w.heap.size A n os) (hnc : n ≤ c) (hcm : c ≤ maxLen) (hp0 : IsB w w.heap.size P m0 ps0) (hmd : m0 ≤ d) (hdm : d ≤ maxLen) (hq0 : IsB w w.heap.size M q0 ms0) (hqe : q0 ≤ e0) (hem : e0 ≤ maxLen) :
    Calls Try.prog 14 #[.agg #[.int .i64 tos, .int .i64 id, .bool df, .bool mf, .int .i64 frag, .int .i64 ttl, .int .i64 proto, .bool sv, .int .u64 shi, .int .u64 slo, .bool dv, .int .u64 dhi, .int .u64 dlo, .slice A n c], .slice P m0 d, .slice M q0 e0] w fun e w' => e = .returned (.bool true) ∧ Below w.heap.size w w' := by
  rcases hr : rightB tos id frag ttl proto sv shi slo dv dhi dlo n with _ | _
  · exact puts_no tos id df mf frag ttl proto sv shi slo dv dhi dlo A n c P m0 d M q0 e0 w (by omega) (by omega) hmd hr
  · unfold rightB at hr
    obtain ⟨a1, a2, a3, a4, a5, a6, a7, a8, a9, a10, rfl, rfl, a13, a14, a15, a16⟩ := of_decide_eq_true hr
    have e1 : shi = 0 ∧ slo < 4294967296 := by simpa [okA] using a13
    have e2 : dhi = 0 ∧ dlo < 4294967296 := by simpa [okA] using a14
    obtain ⟨rfl, b1⟩ := e1
    obtain ⟨rfl, b2⟩ := e2
    have b3 := (u64_wf hw7).1
    have b4 := (u64_wf hw9).1
    obtain ⟨tos, rfl⟩ : ∃ z : Nat, tos = (z : Int) := ⟨tos.toNat, by omega⟩
    obtain ⟨id, rfl⟩ : ∃ z : Nat, id = (z : Int) := ⟨id.toNat, by omega⟩
    obtain ⟨frag, rfl⟩ : ∃ z : Nat, frag = (z : Int) := ⟨frag.toNat, by omega⟩
    obtain ⟨ttl, rfl⟩ : ∃ z : Nat, ttl = (z : Int) := ⟨ttl.toNat, by omega⟩
    obtain ⟨proto, rfl⟩ : ∃ z : Nat, proto = (z : Int) := ⟨proto.toNat, by omega⟩
    obtain ⟨slo, rfl⟩ : ∃ z : Nat, slo = (z : Int) := ⟨slo.toNat, by omega⟩
    obtain ⟨dlo, rfl⟩ : ∃ z : Nat, dlo = (z : Int) := ⟨dlo.toNat, by omega⟩
    have hfl : flI df mf frag = (((flI df mf frag).toNat : Nat) : Int) := by
      have : 0 ≤ flI df mf frag := by unfold flI; split <;> split <;> omega
      omega
    exact puts_yes tos id df mf frag ttl proto slo dlo _ hfl A n c os P m0 d ps0 M q0 e0 ms0 w (by omega) (by omega) (by omega) (by omega) (by omega) (by omega) (by omega) a15 a16 ho hp0 hmd hdm hq0 hqe hem
end Four
end Go.Proofs.Ytniieckjooahfaa
