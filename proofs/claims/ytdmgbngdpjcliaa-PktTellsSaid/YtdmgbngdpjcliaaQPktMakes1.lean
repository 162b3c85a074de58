/- tun.inner and tun.outer by contract. Conditions: slices of bytes that read as lists, sizes below 2^40. -/
import Derived.Test.YtdmgbngdpjcliaaQPktBig13
import Derived.Test.YtdmgbngdpjcliaaQPktBig4
import Derived.Test.YtdmgbngdpjcliaaQPktBig11
import Derived.Test.YtdmgbngdpjcliaaQPktBig14
namespace Go.Proofs.Ytdmgbngdpjcliaa
open Go.RowKit Go.ChangeShapes Go.WideShapes Go.ChangeAt Go.Deep
namespace Tun
/-- Which protocol's number a packet within another one has; 0: none. -/
def innerP (xs : List UInt8) : Nat := if (xs.getD 0 0).toNat / 16 = 4 then 4 else if (xs.getD 0 0).toNat / 16 = 6 then 41 else 0
/-- Why none. -/
def innerK (n : Nat) (xs : List UInt8) : Nat := if n = 0 then 2 else if (xs.getD 0 0).toNat / 16 = 4 ∨ (xs.getD 0 0).toNat / 16 = 6 then 0 else 10
theorem inner_any (A : Option Addr) (n c : Nat) (xs : List UInt8) (w : World) (hx : IsB w w.heap.size A n xs) (hn : n ≤ maxLen) (p k : Nat) (hp : innerP xs = p) (hk : innerK n xs = k) :
    Calls Try.prog 46 #[.slice A n c] w fun e w' => e = .returned (.tuple #[.int .i64 (p : Int), .int .i64 (k : Int)]) ∧ w = w' := by
  unfold maxLen at hn
  by_cases h0 : n = 0
  · subst h0
    have hx0 : xs = [] := List.eq_nil_of_length_eq_zero hx.1
    subst hx0
    obtain rfl : p = 0 := hp.symm
    obtain rfl : k = 2 := hk.symm
    replace hx := hide hx
    replace hp := hide hp
    replace hk := hide hk
    go_enter Try.func46, Try.ntmps46
    go_wp2_with fail
    go_ret2
    exact ⟨rfl, rfl⟩
  · obtain ⟨b, off, v0, rfl, hbl, hv0, hv0l, hc0⟩ := hx.byte (i := 0) (by omega)
    rw [Nat.add_zero] at hc0
    unfold innerP at hp
    unfold innerK at hk
    rw [hv0] at hp hk
    rw [if_neg h0] at hk
    have t0 : ((n : Int) == 0) = false := by rw [beq_eq_false_iff_ne]; omega
    have t1 : (0 : Int) < (n : Int) := by omega
    have t2 : 0 < n := by omega
    replace hx := hide hx
    replace hv0 := hide hv0
    by_cases h4 : v0 / 16 = 4
    · rw [if_pos h4] at hp
      rw [if_pos (.inl h4)] at hk
      subst hp hk
      have t3 : (((v0 : Int) / 16) == 4) = true := by rw [beq_iff_eq]; omega
      replace h4 := hide h4
      replace h0 := hide h0
      go_enter Try.func46, Try.ntmps46
      go_wp2_with fail
      go_ret2
      exact ⟨rfl, rfl⟩
    · rw [if_neg h4] at hp
      have t3 : (((v0 : Int) / 16) == 4) = false := by rw [beq_eq_false_iff_ne]; omega
      by_cases h6 : v0 / 16 = 6
      · rw [if_pos h6] at hp
        rw [if_pos (.inr h6)] at hk
        subst hp hk
        have t4 : (((v0 : Int) / 16) == 6) = true := by rw [beq_iff_eq]; omega
        replace h4 := hide h4
        replace h0 := hide h0
        replace h6 := hide h6
        go_enter Try.func46, Try.ntmps46
        go_wp2_with fail
        go_ret2
        exact ⟨rfl, rfl⟩
      · rw [if_neg h6] at hp
        rw [if_neg (by omega)] at hk
        subst hp hk
        have t4 : (((v0 : Int) / 16) == 6) = false := by rw [beq_eq_false_iff_ne]; omega
        replace h4 := hide h4
        replace h0 := hide h0
        replace h6 := hide h6
        go_enter Try.func46, Try.ntmps46
        go_wp2_with fail
        go_ret2
        exact ⟨rfl, rfl⟩
/-- tun.outer, wherever the bytes lie. -/
def OutIs (n : Nat) (xs : List UInt8) (K : Nat) (b1 : Bool) (sh sl : Int) (b2 : Bool) (dh dl : Int) (proto m1 : Nat) (rest : List UInt8) : Prop :=
  ∀ (A : Option Addr) (c : Nat) (W : World), IsB W W.heap.size A n xs → n ≤ c → c ≤ maxLen → Calls Try.prog 49 #[.slice A n c] W fun e w' => ∃ A2 c2,
    e = .returned (.tuple #[addrV b1 sh sl, addrV b2 dh dl, .int .i64 (proto : Int), .slice A2 m1 c2, .int .i64 (K : Int)]) ∧ IsB w' w'.heap.size A2 m1 rest ∧ m1 ≤ c2 ∧ c2 ≤ maxLen ∧ Below W.heap.size W w'
set_option maxRecDepth 20000 in
set_option maxHeartbeats 4000000 in
theorem outer_six (n : Nat) (xs : List UInt8) (K0 : Nat) (cl la ho : Int) (b1 : Bool) (sh sl : Int) (b2 : Bool) (dh dl : Int) (acc : List (Int × List UInt8)) (nx m1 : Nat) (rest : List UInt8) (hS : SixIs n xs K0 cl la ho b1 sh sl b2 dh dl acc nx m1 rest)
    (h0 : 0 < n) (hv : (xs.getD 0 0).toNat / 16 = 6) (K : Nat) (hK : (if K0 = 0 ∧ 0 < Six.fragP acc then 21 else K0) = K) : OutIs n xs K b1 sh sl b2 dh dl nx m1 rest := by
  intro A c w hx hnc hcm
  obtain ⟨w1, hw1⟩ : ∃ w1, (w.alloc (.cells #[.bool false, .int .u64 0, .int .u64 0] 26)).alloc (.cells #[.bool false, .int .u64 0, .int .u64 0] 26) = w1 := ⟨_, rfl⟩
  have hb1 : Below w.heap.size w w1 := hw1 ▸ ((Below.refl _ _).alloc (Nat.le_refl _) _).alloc (by simp) _
  have hgs : w1.heap[w.heap.size]? = some (.cells #[.bool false, .int .u64 0, .int .u64 0] 26 (0, 0)) := hw1 ▸ blk_old _ (by simp) (blk_new _ _ _)
  have hgd : w1.heap[w.heap.size + 1]? = some (.cells #[.bool false, .int .u64 0, .int .u64 0] 26 (0, 0)) := hw1 ▸ (by simpa using blk_new (w.alloc (.cells #[.bool false, .int .u64 0, .int .u64 0] 26)) 26 #[.bool false, .int .u64 0, .int .u64 0])
  have hz1 : w.heap.size + 1 < w1.heap.size := by rw [← hw1]; simp
  have hx1 := hx.on hb1
  obtain ⟨b, off, v0, rfl, hbl, hv0, hv0l, hc0⟩ := hx1.byte (i := 0) h0
  rw [Nat.add_zero] at hc0
  rw [hv0] at hv
  have t1 : (((v0 : Int) / 16) == 6) = true := by rw [beq_iff_eq]; omega
  have t2 : (0 : Int) < (n : Int) := by omega
  obtain ⟨fb, hfb⟩ : ∃ fb, decide (K0 = 0 ∧ 0 < Six.fragP acc) = fb := ⟨_, rfl⟩
  replace hx := hide hx
  replace hx1 := hide hx1
  replace hb1 := hide hb1
  replace hgs := hide hgs
  replace hgd := hide hgd
  replace hS := hide hS
  replace hK := hide hK
  replace hfb := hide hfb
  replace hv0 := hide hv0
  replace hv := hide hv
  go_enter Try.func49, Try.ntmps49
  go_wp2_with fail
  clear hw1
  refine (hS.out _ c _ hx1.out hnc hcm).mono ?_
  rintro e w2 ⟨X, m, xc, A2, c2, es, rfl, hpe, hX, hmx, hxm, hr, hm2, hc2, hb2⟩
  obtain ⟨wa, hwa⟩ : ∃ wa, w2.alloc (Six.hdC cl la ho b1 sh sl b2 dh dl X m xc nx) = wa := ⟨_, rfl⟩
  have hba : Below w2.heap.size w2 wa := hwa ▸ (Below.refl _ _).alloc (Nat.le_refl _) _
  have hga := hwa ▸ blk_new w2 29 #[.int .i64 cl, .int .i64 la, .int .i64 ho, .bool b1, .int .u64 sh, .int .u64 sl, .bool b2, .int .u64 dh, .int .u64 dl, .slice X m xc, .int .i64 nx]
  have hla : w2.heap.size < wa.heap.size := by rw [← hwa]; simp
  unfold Six.hdC at hwa
  have hb1a := hb2.trans (hba.mono hb2.size)
  have hXa := hX.on hba
  have hra := hr.on hba
  have hcg := blk_cell hga
  have hz2 := hb2.size
  have hmL : m ≤ maxLen := by omega
  clear hX hr hba hb2 hc0
  replace hga := hide hga
  replace hXa := hide hXa
  replace hra := hide hra
  replace hb1a := hide hb1a
  replace hpe := hide hpe
  go_upto_region 3 with fail
  clear hwa
  go_cut [33] (fun sv wx => ∃ w4, sv = .bool fb ∧ Below wa.heap.size wa w4 ∧ w4 = wx)
  case first =>
    by_cases hK0 : K0 = 0
    · have t3 : ((K0 : Int) == 0) = true := by rw [beq_iff_eq]; omega
      obtain ⟨f, hf⟩ : ∃ f, beN (Six.partB es) 1 2 / 8 = f := ⟨_, rfl⟩
      have hfe : decide (0 < f) = fb := by
        rw [← hfb.out, ← hf, Six.pes_frag, hpe.out]
        exact decide_eq_decide.2 ⟨fun h => ⟨hK0, h⟩, fun h => h.2⟩
      replace hf := hide hf
      replace hK0 := hide hK0
      replace hfe := hide hfe
      go_wp2_with fail
      refine (Six.frag_any cl la ho b1 sh sl b2 dh dl X m xc nx es _ hXa.out hmL).mono ?_
      rintro e w3 ⟨rfl, hb3⟩
      rw [hf.out]
      replace hb3 := hide hb3
      go_wp2_with fail
      go_meet
      exact ⟨_, by rw [hfe.out], hb3.out, rfl⟩
    · have t3 : ((K0 : Int) == 0) = false := by rw [beq_eq_false_iff_ne]; omega
      have hfe : fb = false := by rw [← hfb.out]; exact decide_eq_false (fun h => hK0 h.1)
      replace hK0 := hide hK0
      go_wp2_with fail
      go_meet
      exact ⟨_, by rw [hfe], Below.refl _ _, rfl⟩
  case rest =>
  obtain ⟨wx, rfl, hbx, rfl⟩ := hcut
  have hgx := blk_below hbx hla hga.out
  have hlx := Nat.lt_of_lt_of_le hla hbx.size
  have hrx := hra.out.on hbx
  have hb1x := hb1a.out.trans (hbx.mono (by have := hb1a.out.size; omega))
  have hgsx := blk_below hb1x (by omega) hgs.out
  have hgdx := blk_below hb1x hz1 hgd.out
  have hzx := hb1x.size
  clear hcg hbx
  replace hgx := hide hgx
  replace hrx := hide hrx
  replace hb1x := hide hb1x
  replace hgsx := hide hgsx
  replace hgdx := hide hgdx
  have hKe : (if fb = true then 21 else K0) = K := by
    rw [← hK.out, ← hfb.out]
    simp only [decide_eq_true_eq]
  replace hKe := hide hKe
  rcases fb with _ | _
  all_goals
    go_upto_region 5 with fail
    refine wp_region_S wx.heap.size (fun k => k = w.heap.size ∨ k = w.heap.size + 1) (by as_aux_lemma => kernel_rfl) ?_
    intro wd hbd
    have hzd := hbd.size
    have hgsd := blk_below hbd (by omega) hgsx.out
    have hgdd := blk_below hbd (by omega) hgdx.out
    have hghd := blk_below hbd hlx hgx.out
    have hrd := hrx.out.on hbd
    have hn1 : ¬ (w2.heap.size = w.heap.size ∨ w2.heap.size = w.heap.size + 1) := by omega
    have hcl := fun (l : KeptSW wx.heap.size (fun k => k = w.heap.size ∨ k = w.heap.size + 1) wd) (o : Nat) => blk_cell (l.blk hghd hlx hn1) o
    have hcs := blk_cell hgsd
    have hfs := blk_free hgsd
    obtain ⟨w8, e8, hg8, hgr8⟩ := set3 hgsd (.bool b1) (.int .u64 sh) (.int .u64 sl)
    have hgd8 := grown_other hgr8 (show w.heap.size + 1 < wd.heap.size by omega) (by omega) hgdd
    have hcd := blk_cell hgd8
    have hfd := blk_free hgd8
    obtain ⟨w9, e9, hg9, hgr9⟩ := set3 hgd8 (.bool b2) (.int .u64 dh) (.int .u64 dl)
    have hz8 := hgr8.size
    have hg89 := grown_other hgr9 (show w.heap.size < w8.heap.size by omega) (by omega) hg8
    have hB9 : Below w.heap.size w w9 := hb1.out.trans (((hb1x.out.trans (hbd.mono hzx)).mono (by omega)).trans ((below_grown hgr8 (by omega) (Nat.le_refl _)).trans (below_grown hgr9 (by omega) (by omega))))
    have hk8 : KeptS wx.heap.size (fun k => k = w.heap.size ∨ k = w.heap.size + 1) wd w8 := e8 ▸ keptS_set (keptS_set (keptS_set (keptS_refl _ _ _) (.inl rfl) _) (.inl rfl) _) (.inl rfl) _
    have hk9 : KeptS wx.heap.size (fun k => k = w.heap.size ∨ k = w.heap.size + 1) w8 w9 := e9 ▸ keptS_set (keptS_set (keptS_set (keptS_refl _ _ _) (.inr rfl) _) (.inr rfl) _) (.inr rfl) _
    have hr9 := (isB_addr (isB_addr hrd hgr8 (Nat.le_refl _) hgsd) hgr9 hz8 hgd8).more (Nat.le_trans hz8 hgr9.size)
    clear hgr8 hgr9
    replace hg8 := hide hg8
    replace hg89 := hide hg89
    replace hg9 := hide hg9
    replace hB9 := hide hB9
    replace hgd8 := hide hgd8
    replace hk8 := hide hk8
    replace hk9 := hide hk9
    replace hgsd := hide hgsd
    replace hgdd := hide hgdd
    replace hghd := hide hghd
    replace hrd := hide hrd
    replace hbd := hide hbd
    replace hr9 := hide hr9
    refine wpS_seg wx.heap.size (fun k => k = w.heap.size ∨ k = w.heap.size + 1) 0 8 (fuel := 5) (by as_aux_lemma => kernel_rfl) (fun d _ _ _ _ h => by cases d <;> exact h) (by as_aux_lemma => kernel_rfl) (by as_aux_lemma => kernel_rfl) ?_
    simp only [List.drop_zero, List.take_succ_cons, List.take_zero]
    iterate 8 (refine wpQS_step (fun K hK => ?_); go_simp; refine hK _ ?_; clear hK K)
    refine wpQF_nil ?_
    refine wpF_step 8 rfl (by as_aux_lemma => kernel_rfl) (fun K hK => ?_)
    go_simp
    refine hK _ _ hk8.out ?_
    clear hK K
    refine wpF_step 9 rfl (by as_aux_lemma => kernel_rfl) (fun K hK => ?_)
    go_simp
    refine hK _ _ hk9.out ?_
    clear hK K
    refine wpF_step 10 rfl (by as_aux_lemma => kernel_rfl) (fun K hK => ?_)
    go_simp
    refine hK _ _ (keptS_refl _ _ _) ?_
    clear hK K
    refine wpF_step 11 rfl (by as_aux_lemma => kernel_rfl) (fun K hK => ?_)
    go_simp
    refine hK _ _ (keptS_refl _ _ _) ?_
    clear hK K
    refine wpF_step 12 rfl (by as_aux_lemma => kernel_rfl) (fun K hK => ?_)
    go_simp
    refine hK _ _ (keptS_refl _ _ _) ?_
    clear hK K
    refine wpF_done (by as_aux_lemma => kernel_rfl) ?_ 0
    clear hcl hcs hfs hcd hfd e8 e9
    have q1 := blk_cell hg89.out
    have q2 := blk_cell hg9.out
    go_wp2_with fail
    refine bodyPost_ret (v := .tuple #[addrV b1 sh sl, addrV b2 dh dl, .int .i64 nx, .slice A2 m1 c2, .int .i64 (K : Int)]) (by simp [results, Try.results49, go_sem, q1, q2, ← hKe.out]) rfl ⟨A2, c2, rfl, hr9.out, hm2, hc2, hB9.out⟩
set_option maxRecDepth 20000 in
set_option maxHeartbeats 4000000 in
theorem outer_four (n : Nat) (xs : List UInt8) (K0 tos id : Nat) (df mf : Bool) (frag ttl proto slo dlo n1 m1 : Nat) (rest : List UInt8) (hS : FourIs n xs K0 tos id df mf frag ttl proto slo dlo n1 m1 rest)
    (hv : n = 0 ∨ (xs.getD 0 0).toNat / 16 ≠ 6) (K : Nat) (hK : (if K0 = 0 ∧ (0 < frag ∨ mf = true) then 21 else K0) = K) : OutIs n xs K false 0 slo false 0 dlo proto m1 rest := by
  intro A c w hx hnc hcm
  obtain ⟨w1, hw1⟩ : ∃ w1, (w.alloc (.cells #[.bool false, .int .u64 0, .int .u64 0] 26)).alloc (.cells #[.bool false, .int .u64 0, .int .u64 0] 26) = w1 := ⟨_, rfl⟩
  have hb1 : Below w.heap.size w w1 := hw1 ▸ ((Below.refl _ _).alloc (Nat.le_refl _) _).alloc (by simp) _
  have hgs : w1.heap[w.heap.size]? = some (.cells #[.bool false, .int .u64 0, .int .u64 0] 26 (0, 0)) := hw1 ▸ blk_old _ (by simp) (blk_new _ _ _)
  have hgd : w1.heap[w.heap.size + 1]? = some (.cells #[.bool false, .int .u64 0, .int .u64 0] 26 (0, 0)) := hw1 ▸ (by simpa using blk_new (w.alloc (.cells #[.bool false, .int .u64 0, .int .u64 0] 26)) 26 #[.bool false, .int .u64 0, .int .u64 0])
  have hz1 : w.heap.size + 1 < w1.heap.size := by rw [← hw1]; simp
  have hx1 := hx.on hb1
  have hcase : n = 0 ∨ (0 < n ∧ ∃ b off v0, A = some ⟨b, off, none⟩ ∧ w1.cell? ⟨b, off, none⟩ = some (.int .u8 (v0 : Nat)) ∧ v0 / 16 ≠ 6 ∧ v0 ≤ 255) := by
    by_cases h0 : n = 0
    · exact .inl h0
    · obtain ⟨b, off, v0, hA, hbl, hv0, hv0l, hc0⟩ := hx1.byte (i := 0) (by omega)
      rw [Nat.add_zero] at hc0
      exact .inr ⟨by omega, b, off, v0, hA, hc0, by rcases hv with h | h; exact absurd h h0; rw [← hv0]; exact h, hv0l⟩
  obtain ⟨fb, hfb⟩ : ∃ fb, decide (K0 = 0 ∧ (0 < frag ∨ mf = true)) = fb := ⟨_, rfl⟩
  replace hx := hide hx
  replace hx1 := hide hx1
  replace hb1 := hide hb1
  replace hgs := hide hgs
  replace hgd := hide hgd
  replace hS := hide hS
  replace hK := hide hK
  replace hfb := hide hfb
  replace hv := hide hv
  rcases hcase with rfl | ⟨h0, b, off, v0, rfl, hc0, hne, hv0l⟩
  case' inr =>
    have t1 : (((v0 : Int) / 16) == 6) = false := by rw [beq_eq_false_iff_ne]; omega
    have t2 : (0 : Int) < (n : Int) := by omega
    replace hne := hide hne
  all_goals
    go_enter Try.func49, Try.ntmps49
    go_wp2_with fail
    clear hw1
    refine (hS.out _ c _ hx1.out hnc hcm).mono ?_
    rintro e w2 ⟨A1, c1, A2, c2, rfl, hr, hm2, hc2, hb2⟩
    obtain ⟨wa, hwa⟩ : ∃ wa, w2.alloc (Four.hdC tos id df mf frag ttl proto false 0 slo false 0 dlo A1 n1 c1) = wa := ⟨_, rfl⟩
    have hba : Below w2.heap.size w2 wa := hwa ▸ (Below.refl _ _).alloc (Nat.le_refl _) _
    have hga := hwa ▸ blk_new w2 51 #[.int .i64 tos, .int .i64 id, .bool df, .bool mf, .int .i64 frag, .int .i64 ttl, .int .i64 proto, .bool false, .int .u64 0, .int .u64 slo, .bool false, .int .u64 0, .int .u64 dlo, .slice A1 n1 c1]
    have hlx : w2.heap.size < wa.heap.size := by rw [← hwa]; simp
    unfold Four.hdC at hwa
    have hb1x := hb2.trans (hba.mono hb2.size)
    have hrx := hr.on hba
    have hcg := blk_cell hga
    have hz2 := hb2.size
    have hzx := hb1x.size
    have hgsx := blk_below hb1x (by omega) hgs.out
    have hgdx := blk_below hb1x hz1 hgd.out
    have hKe : (if fb = true then 21 else K0) = K := by
      rw [← hK.out, ← hfb.out]
      simp only [decide_eq_true_eq]
    clear hr hba hb2
    try clear hc0
    replace hga := hide hga
    replace hrx := hide hrx
    replace hb1x := hide hb1x
    replace hgsx := hide hgsx
    replace hgdx := hide hgdx
    replace hKe := hide hKe
    go_upto_region 7 with fail
    clear hwa
    go_cut [58] (fun sv wx => sv = .bool fb ∧ wa = wx)
    case first =>
      by_cases hK0 : K0 = 0
      · have t3 : ((K0 : Int) == 0) = true := by rw [beq_iff_eq]; omega
        by_cases hf0 : 0 < frag
        · have t4 : (0 : Int) < (frag : Int) := by omega
          have hfe : fb = true := by rw [← hfb.out]; exact decide_eq_true ⟨hK0, .inl hf0⟩
          replace hK0 := hide hK0
          replace hf0 := hide hf0
          replace hfe := hide hfe
          go_wp2_with fail
          go_meet
          exact ⟨by rw [hfe.out], rfl⟩
        · have t4 : ¬ (0 : Int) < (frag : Int) := by omega
          have hfe : mf = fb := by
            rw [← hfb.out]
            rcases mf with _ | _
            · exact (decide_eq_false (fun h => by rcases h.2 with h | h; exact hf0 h; cases h)).symm
            · exact (decide_eq_true ⟨hK0, .inr rfl⟩).symm
          replace hK0 := hide hK0
          replace hf0 := hide hf0
          replace hfe := hide hfe
          go_wp2_with fail
          go_meet
          exact ⟨by rw [hfe.out], rfl⟩
      · have t3 : ((K0 : Int) == 0) = false := by rw [beq_eq_false_iff_ne]; omega
        have hfe : fb = false := by rw [← hfb.out]; exact decide_eq_false (fun h => hK0 h.1)
        replace hK0 := hide hK0
        replace hfe := hide hfe
        go_wp2_with fail
        go_meet
        exact ⟨by rw [hfe.out], rfl⟩
    case rest =>
    obtain ⟨rfl, rfl⟩ := hcut
    clear hcg
    rcases fb with _ | _
    all_goals
      go_upto_region 9 with fail
      refine wp_region_S wa.heap.size (fun k => k = w.heap.size ∨ k = w.heap.size + 1) (by as_aux_lemma => kernel_rfl) ?_
      intro wd hbd
      have hzd := hbd.size
      have hgsd := blk_below hbd (by omega) hgsx.out
      have hgdd := blk_below hbd (by omega) hgdx.out
      have hghd := blk_below hbd hlx hga.out
      have hrd := hrx.out.on hbd
      have hn1 : ¬ (w2.heap.size = w.heap.size ∨ w2.heap.size = w.heap.size + 1) := by omega
      have hcl := fun (l : KeptSW wa.heap.size (fun k => k = w.heap.size ∨ k = w.heap.size + 1) wd) (o : Nat) => blk_cell (l.blk hghd hlx hn1) o
      have hcs := blk_cell hgsd
      have hfs := blk_free hgsd
      obtain ⟨w8, e8, hg8, hgr8⟩ := set3 hgsd (.bool false) (.int .u64 0) (.int .u64 slo)
      have hgd8 := grown_other hgr8 (show w.heap.size + 1 < wd.heap.size by omega) (by omega) hgdd
      have hcd := blk_cell hgd8
      have hfd := blk_free hgd8
      obtain ⟨w9, e9, hg9, hgr9⟩ := set3 hgd8 (.bool false) (.int .u64 0) (.int .u64 dlo)
      have hz8 := hgr8.size
      have hg89 := grown_other hgr9 (show w.heap.size < w8.heap.size by omega) (by omega) hg8
      have hB9 : Below w.heap.size w w9 := hb1.out.trans (((hb1x.out.trans (hbd.mono hzx)).mono (by omega)).trans ((below_grown hgr8 (by omega) (Nat.le_refl _)).trans (below_grown hgr9 (by omega) (by omega))))
      have hk8 : KeptS wa.heap.size (fun k => k = w.heap.size ∨ k = w.heap.size + 1) wd w8 := e8 ▸ keptS_set (keptS_set (keptS_set (keptS_refl _ _ _) (.inl rfl) _) (.inl rfl) _) (.inl rfl) _
      have hk9 : KeptS wa.heap.size (fun k => k = w.heap.size ∨ k = w.heap.size + 1) w8 w9 := e9 ▸ keptS_set (keptS_set (keptS_set (keptS_refl _ _ _) (.inr rfl) _) (.inr rfl) _) (.inr rfl) _
      have hr9 := (isB_addr (isB_addr hrd hgr8 (Nat.le_refl _) hgsd) hgr9 hz8 hgd8).more (Nat.le_trans hz8 hgr9.size)
      clear hgr8 hgr9
      replace hg8 := hide hg8
      replace hg89 := hide hg89
      replace hg9 := hide hg9
      replace hB9 := hide hB9
      replace hgd8 := hide hgd8
      replace hk8 := hide hk8
      replace hk9 := hide hk9
      replace hgsd := hide hgsd
      replace hgdd := hide hgdd
      replace hghd := hide hghd
      replace hrd := hide hrd
      replace hbd := hide hbd
      replace hr9 := hide hr9
      refine wpS_seg wa.heap.size (fun k => k = w.heap.size ∨ k = w.heap.size + 1) 0 8 (fuel := 5) (by as_aux_lemma => kernel_rfl) (fun d _ _ _ _ h => by cases d <;> exact h) (by as_aux_lemma => kernel_rfl) (by as_aux_lemma => kernel_rfl) ?_
      simp only [List.drop_zero, List.take_succ_cons, List.take_zero]
      iterate 8 (refine wpQS_step (fun K hK => ?_); go_simp; refine hK _ ?_; clear hK K)
      refine wpQF_nil ?_
      refine wpF_step 8 rfl (by as_aux_lemma => kernel_rfl) (fun K hK => ?_)
      go_simp
      refine hK _ _ hk8.out ?_
      clear hK K
      refine wpF_step 9 rfl (by as_aux_lemma => kernel_rfl) (fun K hK => ?_)
      go_simp
      refine hK _ _ hk9.out ?_
      clear hK K
      refine wpF_step 10 rfl (by as_aux_lemma => kernel_rfl) (fun K hK => ?_)
      go_simp
      refine hK _ _ (keptS_refl _ _ _) ?_
      clear hK K
      refine wpF_step 11 rfl (by as_aux_lemma => kernel_rfl) (fun K hK => ?_)
      go_simp
      refine hK _ _ (keptS_refl _ _ _) ?_
      clear hK K
      refine wpF_step 12 rfl (by as_aux_lemma => kernel_rfl) (fun K hK => ?_)
      go_simp
      refine hK _ _ (keptS_refl _ _ _) ?_
      clear hK K
      refine wpF_done (by as_aux_lemma => kernel_rfl) ?_ 0
      clear hcl hcs hfs hcd hfd e8 e9
      have q1 := blk_cell hg89.out
      have q2 := blk_cell hg9.out
      go_wp2_with fail
      refine bodyPost_ret (v := .tuple #[addrV false 0 slo, addrV false 0 dlo, .int .i64 proto, .slice A2 m1 c2, .int .i64 (K : Int)]) (by simp [results, Try.results49, go_sem, q1, q2, ← hKe.out]) rfl ⟨A2, c2, rfl, hr9.out, hm2, hc2, hB9.out⟩
end Tun
end Go.Proofs.Ytdmgbngdpjcliaa
/- tun.Open by contract. Conditions: slices of bytes that read as lists, sizes below 2^40. -/
namespace Go.Proofs.Ytdmgbngdpjcliaa
open Go.RowKit Go.ChangeShapes Go.WideShapes Go.ChangeAt Go.Deep
namespace Tun
/-- Why nothing lies in a packet; 0: something does. -/
def openK (K proto m1 : Nat) (rest : List UInt8) : Nat := if K ≠ 0 then K else if proto ≠ 4 ∧ proto ≠ 41 then 14 else if innerK m1 rest ≠ 0 then innerK m1 rest else if innerP rest ≠ proto then 14 else 0
/-- How tun.Open ends. -/
def OpenEnd (K : Nat) (b1 : Bool) (sh sl : Int) (b2 : Bool) (dh dl : Int) (m1 : Nat) (rest : List UInt8) (w w' : World) (e : Ending) : Prop :=
  (K ≠ 0 → e = .returned (.tuple #[.slice none 0 0, addrV false 0 0, addrV false 0 0, .int .i64 (K : Int)])) ∧
  (K = 0 → ∃ A2 c2, e = .returned (.tuple #[.slice A2 m1 c2, addrV b1 sh sl, addrV b2 dh dl, .int .i64 0]) ∧ IsB w' w'.heap.size A2 m1 rest ∧ m1 ≤ c2 ∧ c2 ≤ maxLen) ∧ Below w.heap.size w w'
set_option maxRecDepth 20000 in
set_option maxHeartbeats 8000000 in
theorem open_any (n : Nat) (xs : List UInt8) (K0 : Nat) (b1 : Bool) (sh sl : Int) (b2 : Bool) (dh dl : Int) (proto m1 : Nat) (rest : List UInt8) (hO : OutIs n xs K0 b1 sh sl b2 dh dl proto m1 rest) (K : Nat) (hK : openK K0 proto m1 rest = K)
    (A : Option Addr) (c : Nat) (w : World) (hx : IsB w w.heap.size A n xs) (hnc : n ≤ c) (hcm : c ≤ maxLen) :
    Calls Try.prog 23 #[.slice A n c] w fun e w' => OpenEnd K b1 sh sl b2 dh dl m1 rest w w' e := by
  obtain ⟨w1, hw1⟩ : ∃ w1, (w.alloc (.cells #[.bool false, .int .u64 0, .int .u64 0] 26)).alloc (.cells #[.bool false, .int .u64 0, .int .u64 0] 26) = w1 := ⟨_, rfl⟩
  have hb1 : Below w.heap.size w w1 := hw1 ▸ ((Below.refl _ _).alloc (Nat.le_refl _) _).alloc (by simp) _
  have hgs : w1.heap[w.heap.size]? = some (.cells #[.bool false, .int .u64 0, .int .u64 0] 26 (0, 0)) := hw1 ▸ blk_old _ (by simp) (blk_new _ _ _)
  have hgd : w1.heap[w.heap.size + 1]? = some (.cells #[.bool false, .int .u64 0, .int .u64 0] 26 (0, 0)) := hw1 ▸ (by simpa using blk_new (w.alloc (.cells #[.bool false, .int .u64 0, .int .u64 0] 26)) 26 #[.bool false, .int .u64 0, .int .u64 0])
  have hz1 : w.heap.size + 1 < w1.heap.size := by rw [← hw1]; simp
  have hx1 := hx.on hb1
  replace hx := hide hx
  replace hx1 := hide hx1
  replace hb1 := hide hb1
  replace hgs := hide hgs
  replace hgd := hide hgd
  replace hO := hide hO
  replace hK := hide hK
  go_enter Try.func23, Try.ntmps23
  go_wp2_with fail
  clear hw1
  refine (hO.out _ c _ hx1.out hnc hcm).mono ?_
  rintro e w2 ⟨A2, c2, rfl, hr, hm2, hc2, hb2⟩
  obtain ⟨wb, hwb⟩ : ∃ wb, (w2.alloc (.cells #[.bool b1, .int .u64 sh, .int .u64 sl] 26)).alloc (.cells #[.bool b2, .int .u64 dh, .int .u64 dl] 26) = wb := ⟨_, rfl⟩
  have hbb : Below w2.heap.size w2 wb := hwb ▸ ((Below.refl _ _).alloc (Nat.le_refl _) _).alloc (by simp) _
  have hg6 : wb.heap[w2.heap.size]? = some (.cells #[.bool b1, .int .u64 sh, .int .u64 sl] 26 (0, 0)) := hwb ▸ blk_old _ (by simp) (blk_new _ _ _)
  have hg7 : wb.heap[w2.heap.size + 1]? = some (.cells #[.bool b2, .int .u64 dh, .int .u64 dl] 26 (0, 0)) := hwb ▸ (by simpa using blk_new (w2.alloc (.cells #[.bool b1, .int .u64 sh, .int .u64 sl] 26)) 26 #[.bool b2, .int .u64 dh, .int .u64 dl])
  have hz2 := hb2.size
  have hzb : w2.heap.size + 1 < wb.heap.size := by rw [← hwb]; simp
  have hb1b := hb2.trans (hbb.mono hb2.size)
  have hgsb := blk_below hb1b (by omega) hgs.out
  have hgdb := blk_below hb1b hz1 hgd.out
  have hrb := hr.on hbb
  have hBb := hb1.out.trans (hb1b.mono hb1.out.size)
  clear hr hb2 hbb hb1b
  replace hg6 := hide hg6
  replace hg7 := hide hg7
  replace hrb := hide hrb
  replace hBb := hide hBb
  replace hgsb := hide hgsb
  replace hgdb := hide hgdb
  go_upto_region 2 with fail
  clear hwb
  have hcs := blk_cell hgsb.out
  have hfs := blk_free hgsb.out
  by_cases hK0 : K0 = 0
  case neg =>
    have t1 : ((K0 : Int) != 0) = true := by rw [bne_iff_ne]; omega
    skip
    obtain ⟨w8, e8, hg8, hgr8⟩ := set3 hgsb.out (.bool false) (.int .u64 0) (.int .u64 0)
    have hgd8 := grown_other hgr8 (show w.heap.size + 1 < wb.heap.size by omega) (by omega) hgdb.out
    have hcd := blk_cell hgd8
    have hfd := blk_free hgd8
    obtain ⟨w9, e9, hg9, hgr9⟩ := set3 hgd8 (.bool false) (.int .u64 0) (.int .u64 0)
    have hz8 := hgr8.size
    have hg89 := grown_other hgr9 (show w.heap.size < w8.heap.size by omega) (by omega) hg8
    have hB9 : Below w.heap.size w w9 := hBb.out.trans ((below_grown hgr8 (by omega) (Nat.le_refl _)).trans (below_grown hgr9 (by omega) (by omega)))
    have q1 := blk_cell hg89
    have q2 := blk_cell hg9
    have hKe : K = K0 := by rw [← hK.out]; unfold openK; rw [if_pos hK0]
    clear hgr8 hgr9
    replace hg8 := hide hg8
    replace hg89 := hide hg89
    replace hg9 := hide hg9
    replace hB9 := hide hB9
    replace hgd8 := hide hgd8
    replace hKe := hide hKe
    go_wp2_with fail
    exact bodyPost_ret (v := .tuple #[.slice none 0 0, addrV false 0 0, addrV false 0 0, .int .i64 (K0 : Nat)]) (by simp [results, Try.results23, go_sem, q1, q2]) rfl ⟨fun _ => by rw [hKe.out], fun h => absurd h (by rw [hKe.out]; exact hK0), hB9.out⟩
  have t1 : ((K0 : Int) != 0) = false := by rw [bne_eq_false_iff_eq]; omega
  obtain ⟨p, hp⟩ : ∃ p, innerP rest = p := ⟨_, rfl⟩
  obtain ⟨k, hk⟩ : ∃ k, innerK m1 rest = k := ⟨_, rfl⟩
  have hKo : K = if proto ≠ 4 ∧ proto ≠ 41 then 14 else if k ≠ 0 then k else if p ≠ proto then 14 else 0 := by
    rw [← hK.out]
    unfold openK
    rw [if_neg (fun h => h hK0), hp, hk]
  replace hp := hide hp
  replace hk := hide hk
  replace hK0 := hide hK0
  go_wp2_with fail
  refine (inner_any A2 m1 c2 rest _ hrb.out (by omega) p k hp.out hk.out).mono ?_
  rintro e w' ⟨rfl, rfl⟩
  clear hK
  have hK := hide hKo
  clear hKo
  by_cases hpr : proto ≠ 4 ∧ proto ≠ 41
  · have t2 : ((proto : Int) != 4) = true := by rw [bne_iff_ne]; omega
    have t3 : ((proto : Int) != 41) = true := by rw [bne_iff_ne]; omega
    skip
    obtain ⟨w8, e8, hg8, hgr8⟩ := set3 hgsb.out (.bool false) (.int .u64 0) (.int .u64 0)
    have hgd8 := grown_other hgr8 (show w.heap.size + 1 < wb.heap.size by omega) (by omega) hgdb.out
    have hcd := blk_cell hgd8
    have hfd := blk_free hgd8
    obtain ⟨w9, e9, hg9, hgr9⟩ := set3 hgd8 (.bool false) (.int .u64 0) (.int .u64 0)
    have hz8 := hgr8.size
    have hg89 := grown_other hgr9 (show w.heap.size < w8.heap.size by omega) (by omega) hg8
    have hB9 : Below w.heap.size w w9 := hBb.out.trans ((below_grown hgr8 (by omega) (Nat.le_refl _)).trans (below_grown hgr9 (by omega) (by omega)))
    have q1 := blk_cell hg89
    have q2 := blk_cell hg9
    have hKe : K = 14 := by rw [hK.out, if_pos hpr]
    clear hgr8 hgr9
    replace hg8 := hide hg8
    replace hg89 := hide hg89
    replace hg9 := hide hg9
    replace hB9 := hide hB9
    replace hgd8 := hide hgd8
    replace hKe := hide hKe
    go_wp2_with fail
    exact bodyPost_ret (v := .tuple #[.slice none 0 0, addrV false 0 0, addrV false 0 0, .int .i64 (14 : Nat)]) (by simp [results, Try.results23, go_sem, q1, q2]) rfl ⟨fun _ => by rw [hKe.out], fun h => absurd h (by have := hKe.out; omega), hB9.out⟩
  have hz : ((proto : Int) != 4) = false ∨ (((proto : Int) != 4) = true ∧ ((proto : Int) != 41) = false) := by
    by_cases h : proto = 4
    · exact .inl (by rw [bne_eq_false_iff_eq]; omega)
    · exact .inr ⟨by rw [bne_iff_ne]; omega, by rw [bne_eq_false_iff_eq]; omega⟩
  by_cases hk0 : k ≠ 0
  · have t4 : ((k : Int) != 0) = true := by rw [bne_iff_ne]; omega
    rcases hz with t2 | ⟨t2, t3⟩
    all_goals
      skip
      obtain ⟨w8, e8, hg8, hgr8⟩ := set3 hgsb.out (.bool false) (.int .u64 0) (.int .u64 0)
      have hgd8 := grown_other hgr8 (show w.heap.size + 1 < wb.heap.size by omega) (by omega) hgdb.out
      have hcd := blk_cell hgd8
      have hfd := blk_free hgd8
      obtain ⟨w9, e9, hg9, hgr9⟩ := set3 hgd8 (.bool false) (.int .u64 0) (.int .u64 0)
      have hz8 := hgr8.size
      have hg89 := grown_other hgr9 (show w.heap.size < w8.heap.size by omega) (by omega) hg8
      have hB9 : Below w.heap.size w w9 := hBb.out.trans ((below_grown hgr8 (by omega) (Nat.le_refl _)).trans (below_grown hgr9 (by omega) (by omega)))
      have q1 := blk_cell hg89
      have q2 := blk_cell hg9
      have hKe : K = k := by rw [hK.out, if_neg hpr, if_pos hk0]
      clear hgr8 hgr9
      replace hg8 := hide hg8
      replace hg89 := hide hg89
      replace hg9 := hide hg9
      replace hB9 := hide hB9
      replace hgd8 := hide hgd8
      replace hKe := hide hKe
      go_wp2_with fail
      exact bodyPost_ret (v := .tuple #[.slice none 0 0, addrV false 0 0, addrV false 0 0, .int .i64 (k : Nat)]) (by simp [results, Try.results23, go_sem, q1, q2]) rfl ⟨fun _ => by rw [hKe.out], fun h => absurd h (by rw [hKe.out]; exact hk0), hB9.out⟩
  have t4 : ((k : Int) != 0) = false := by rw [bne_eq_false_iff_eq]; omega
  by_cases hpp : p ≠ proto
  · have t5 : ((p : Int) != (proto : Int)) = true := by rw [bne_iff_ne]; omega
    rcases hz with t2 | ⟨t2, t3⟩
    all_goals
      skip
      obtain ⟨w8, e8, hg8, hgr8⟩ := set3 hgsb.out (.bool false) (.int .u64 0) (.int .u64 0)
      have hgd8 := grown_other hgr8 (show w.heap.size + 1 < wb.heap.size by omega) (by omega) hgdb.out
      have hcd := blk_cell hgd8
      have hfd := blk_free hgd8
      obtain ⟨w9, e9, hg9, hgr9⟩ := set3 hgd8 (.bool false) (.int .u64 0) (.int .u64 0)
      have hz8 := hgr8.size
      have hg89 := grown_other hgr9 (show w.heap.size < w8.heap.size by omega) (by omega) hg8
      have hB9 : Below w.heap.size w w9 := hBb.out.trans ((below_grown hgr8 (by omega) (Nat.le_refl _)).trans (below_grown hgr9 (by omega) (by omega)))
      have q1 := blk_cell hg89
      have q2 := blk_cell hg9
      have hKe : K = 14 := by rw [hK.out, if_neg hpr, if_neg hk0, if_pos hpp]
      clear hgr8 hgr9
      replace hg8 := hide hg8
      replace hg89 := hide hg89
      replace hg9 := hide hg9
      replace hB9 := hide hB9
      replace hgd8 := hide hgd8
      replace hKe := hide hKe
      go_wp2_with fail
      exact bodyPost_ret (v := .tuple #[.slice none 0 0, addrV false 0 0, addrV false 0 0, .int .i64 (14 : Nat)]) (by simp [results, Try.results23, go_sem, q1, q2]) rfl ⟨fun _ => by rw [hKe.out], fun h => absurd h (by have := hKe.out; omega), hB9.out⟩
  have t5 : ((p : Int) != (proto : Int)) = false := by rw [bne_eq_false_iff_eq]; omega
  have hKe : K = 0 := by rw [hK.out, if_neg hpr, if_neg hk0, if_neg hpp]
  clear hcs hfs
  replace hKe := hide hKe
  replace hpr := hide hpr
  replace hpp := hide hpp
  rcases hz with t2 | ⟨t2, t3⟩
  all_goals
    go_wp2_with fail
    refine wp_region_S wb.heap.size (fun k => k = w.heap.size ∨ k = w.heap.size + 1) (by as_aux_lemma => kernel_rfl) ?_
    intro wd hbd
    have hzd := hbd.size
    have hgsd := blk_below hbd (by omega) hgsb.out
    have hgdd := blk_below hbd (by omega) hgdb.out
    have hg6d := blk_below hbd (by omega) hg6.out
    have hg7d := blk_below hbd hzb hg7.out
    have hrd := hrb.out.on hbd
    have hn1 : ¬ (w2.heap.size = w.heap.size ∨ w2.heap.size = w.heap.size + 1) := by omega
    have hn2 : ¬ (w2.heap.size + 1 = w.heap.size ∨ w2.heap.size + 1 = w.heap.size + 1) := by omega
    have hcl := fun (l : KeptSW wb.heap.size (fun k => k = w.heap.size ∨ k = w.heap.size + 1) wd) (o : Nat) => blk_cell (l.blk hg6d (by omega) hn1) o
    have hcm := fun (l : KeptSW wb.heap.size (fun k => k = w.heap.size ∨ k = w.heap.size + 1) wd) (o : Nat) => blk_cell (l.blk hg7d hzb hn2) o
    have hcs := blk_cell hgsd
    have hfs := blk_free hgsd
    obtain ⟨w8, e8, hg8, hgr8⟩ := set3 hgsd (.bool b1) (.int .u64 sh) (.int .u64 sl)
    have hgd8 := grown_other hgr8 (show w.heap.size + 1 < wd.heap.size by omega) (by omega) hgdd
    have hcd := blk_cell hgd8
    have hfd := blk_free hgd8
    obtain ⟨w9, e9, hg9, hgr9⟩ := set3 hgd8 (.bool b2) (.int .u64 dh) (.int .u64 dl)
    have hz8 := hgr8.size
    have hg89 := grown_other hgr9 (show w.heap.size < w8.heap.size by omega) (by omega) hg8
    have hB9 : Below w.heap.size w w9 := hBb.out.trans ((hbd.mono (by omega)).trans ((below_grown hgr8 (by omega) (Nat.le_refl _)).trans (below_grown hgr9 (by omega) (by omega))))
    have hk8 : KeptS wb.heap.size (fun k => k = w.heap.size ∨ k = w.heap.size + 1) wd w8 := e8 ▸ keptS_set (keptS_set (keptS_set (keptS_refl _ _ _) (.inl rfl) _) (.inl rfl) _) (.inl rfl) _
    have hk9 : KeptS wb.heap.size (fun k => k = w.heap.size ∨ k = w.heap.size + 1) w8 w9 := e9 ▸ keptS_set (keptS_set (keptS_set (keptS_refl _ _ _) (.inr rfl) _) (.inr rfl) _) (.inr rfl) _
    have hr9 := (isB_addr (isB_addr hrd hgr8 (Nat.le_refl _) hgsd) hgr9 hz8 hgd8).more (Nat.le_trans hz8 hgr9.size)
    clear hgr8 hgr9
    replace hg8 := hide hg8
    replace hg89 := hide hg89
    replace hg9 := hide hg9
    replace hB9 := hide hB9
    replace hgd8 := hide hgd8
    replace hk8 := hide hk8
    replace hk9 := hide hk9
    replace hgsd := hide hgsd
    replace hgdd := hide hgdd
    replace hg6d := hide hg6d
    replace hg7d := hide hg7d
    replace hrd := hide hrd
    replace hbd := hide hbd
    replace hr9 := hide hr9
    refine wpS_seg wb.heap.size (fun k => k = w.heap.size ∨ k = w.heap.size + 1) 0 3 (fuel := 4) (by as_aux_lemma => kernel_rfl) (fun d _ _ _ _ h => by cases d <;> exact h) (by as_aux_lemma => kernel_rfl) (by as_aux_lemma => kernel_rfl) ?_
    simp only [List.drop_zero, List.take_succ_cons, List.take_zero]
    iterate 3 (refine wpQS_step (fun K hK => ?_); go_simp; refine hK _ ?_; clear hK K)
    refine wpQF_nil ?_
    refine wpF_step 3 rfl (by as_aux_lemma => kernel_rfl) (fun K hK => ?_)
    go_simp
    refine hK _ _ (keptS_refl _ _ _) ?_
    clear hK K
    refine wpF_step 4 rfl (by as_aux_lemma => kernel_rfl) (fun K' hK' => ?_)
    go_simp
    refine hK' _ _ hk8.out ?_
    clear hK' K'
    refine wpF_step 5 rfl (by as_aux_lemma => kernel_rfl) (fun K' hK' => ?_)
    go_simp
    refine hK' _ _ hk9.out ?_
    clear hK' K'
    refine wpF_step 6 rfl (by as_aux_lemma => kernel_rfl) (fun K' hK' => ?_)
    go_simp
    refine hK' _ _ (keptS_refl _ _ _) ?_
    clear hK' K'
    refine wpF_done (by as_aux_lemma => kernel_rfl) ?_ 0
    clear hcl hcm hcs hfs hcd hfd e8 e9
    have q1 := blk_cell hg89.out
    have q2 := blk_cell hg9.out
    go_wp2_with fail
    exact bodyPost_ret (v := .tuple #[.slice A2 m1 c2, addrV b1 sh sl, addrV b2 dh dl, .int .i64 0]) (by simp [results, Try.results23, go_sem, q1, q2]) rfl ⟨fun h => absurd hKe.out h, fun _ => ⟨A2, c2, rfl, hr9.out, hm2, hc2⟩, hB9.out⟩
end Tun
end Go.Proofs.Ytdmgbngdpjcliaa
/- The law's same of two headers that are the same; the law's cut; the example of chapter 9. Conditions: slices that read as lists. -/
namespace Go.Proofs.Ytdmgbngdpjcliaa
open Go.RowKit Go.ChangeShapes Go.WideShapes Go.ChangeAt Go.Deep
namespace Six
theorem cut_as (A : Option Addr) (n c n1 : Nat) (w : World) (hn : n ≤ maxLen) (hc : n ≤ c) (h1 : min n 500 = n1) :
    Calls Try.prog 11 #[.slice A n c] w fun e w' => e = .returned (.slice A n1 c) ∧ w = w' := by
  unfold maxLen at hn
  by_cases h : 500 < n
  · obtain rfl : n1 = 500 := by omega
    go_enter Try.func11, Try.ntmps11
    go_wp2
    go_ret
    exact ⟨rfl, rfl⟩
  · obtain rfl : n1 = n := by omega
    go_enter Try.func11, Try.ntmps11
    go_wp2
    go_ret
    exact ⟨rfl, rfl⟩
set_option maxRecDepth 20000 in
set_option maxHeartbeats 4000000 in
theorem same_any (cls lab hop : Int) (sv : Bool) (shi slo : Int) (dv : Bool) (dhi dlo : Int) (X1 : Option Addr) (n1 c1 : Nat) (X2 : Option Addr) (n2 c2 : Nat) (proto : Int) (es1 es2 : List Ext) (w : World)
    (h1 : IsX w w.heap.size X1 n1 es1) (h2 : IsX w w.heap.size X2 n2 es2) (he : pes es1 = pes es2) (hn : n1 ≤ 1099511627776) :
    Calls Try.prog 14 #[hdV cls lab hop sv shi slo dv dhi dlo X1 n1 c1 proto, hdV cls lab hop sv shi slo dv dhi dlo X2 n2 c2 proto] w fun e w' => e = .returned (.bool true) ∧ Below w.heap.size w w' := by
  have hnn : n2 = n1 := by rw [← h2.1, ← h1.1, ← pes_length, ← he, pes_length]
  subst hnn
  obtain ⟨w2, hw2⟩ : ∃ w2, (w.alloc (hdC cls lab hop sv shi slo dv dhi dlo X1 n2 c1 proto)).alloc (hdC cls lab hop sv shi slo dv dhi dlo X2 n2 c2 proto) = w2 := ⟨_, rfl⟩
  have hb2 : Below w.heap.size w w2 := hw2 ▸ ((Below.refl _ _).alloc (Nat.le_refl _) _).alloc (by simp) _
  have hga : w2.heap[w.heap.size]? = some (hdC cls lab hop sv shi slo dv dhi dlo X1 n2 c1 proto) := hw2 ▸ blk_old _ (by simp) (blk_new _ _ _)
  have hgb : w2.heap[w.heap.size + 1]? = some (hdC cls lab hop sv shi slo dv dhi dlo X2 n2 c2 proto) := hw2 ▸ (by simpa using blk_new (w.alloc (hdC cls lab hop sv shi slo dv dhi dlo X1 n2 c1 proto)) 29 #[.int .i64 cls, .int .i64 lab, .int .i64 hop, .bool sv, .int .u64 shi, .int .u64 slo, .bool dv, .int .u64 dhi, .int .u64 dlo, .slice X2 n2 c2, .int .i64 proto])
  have hz2 : w.heap.size + 1 < w2.heap.size := by rw [← hw2]; simp
  have h12 := h1.on hb2
  have h22 := h2.on hb2
  unfold hdC at hw2 hga hgb
  have hqa := blk_cell hga
  have hqb := blk_cell hgb
  replace h1 := hide h1
  replace h2 := hide h2
  replace h12 := hide h12
  replace h22 := hide h22
  replace hb2 := hide hb2
  replace hga := hide hga
  replace hgb := hide hgb
  replace he := hide he
  unfold hdV
  go_enter Try.func14, Try.ntmps14
  go_wp2_with fail
  clear hw2 hqa hqb
  go_loopw [5] (fun i wr => ∃ j : Nat, j ≤ n2 ∧ i = .int .i64 (j : Int) ∧ Below w2.heap.size w2 wr) (fun i _ => n2 - (intOf i).toNat)
  case atStart => exact ⟨0, Nat.zero_le _, rfl, Below.refl _ _⟩
  case round =>
    obtain ⟨j, hj, rfl, hbr⟩ := hrel
    have hgar := blk_below hbr (by omega) hga.out
    have hgbr := blk_below hbr hz2 hgb.out
    have hx1 := h12.out.on hbr
    have hx2 := h22.out.on hbr
    have hl1 : w.heap.size < wr.heap.size := by have := hbr.size; omega
    have hl2 : w.heap.size + 1 < wr.heap.size := by have := hbr.size; omega
    have hca := blk_cell hgar
    by_cases hlt : j < n2
    · have hji : (j : Int) < (n2 : Int) := by omega
      have hj0 : (0 : Int) ≤ (j : Int) := by omega
      obtain ⟨ba, oa, ka, Aa, ca, xa, rfl, hbla, hgea, hca0, hca1, hbxa, hxca, hxma⟩ := hx1.at hlt
      obtain ⟨bb, ob, kb, Ab, cb, xb, rfl, hblb, hgeb, hcb0, hcb1, hbxb, hxcb, hxmb⟩ := hx2.at hlt
      have hpe : ((ka, xa) : Int × List UInt8) = (kb, xb) := by
        have e1 := pes_get hgea
        have e2 := pes_get hgeb
        rw [he.out, e2] at e1
        exact (Option.some.inj e1).symm
      obtain ⟨rfl, rfl⟩ : ka = kb ∧ xa = xb := by simpa using hpe
      have hd1 := fun (l : Later wr) (o : Nat) => blk_cell (blk_below l.hb hl1 hgar) o
      have hd2 := fun (l : Later wr) (o : Nat) => blk_cell (blk_below l.hb hl2 hgbr) o
      have hd3 := fun l : Later wr => l.cell hca0
      have hd4 := fun l : Later wr => l.cell hca1
      have hd5 := fun l : Later wr => l.cell hcb0
      have hd6 := fun l : Later wr => l.cell hcb1
      have hd7 := fun l : Later wr => (hbxa.later l).str ca
      have hd8 := fun l : Later wr => (hbxb.later l).str cb
      clear hca0 hca1 hcb0 hcb1 hpe hgea hgeb hx1 hx2
      replace hgar := hide hgar
      replace hgbr := hide hgbr
      replace hbr := hide hbr
      replace hbxa := hide hbxa
      replace hbxb := hide hbxb
      go_wp2_with fail
      clear hca
      refine wp_region_L (by as_aux_lemma => kernel_rfl) ?_
      refine wpE_seg 0 30 (fuel := 0) (by as_aux_lemma => kernel_rfl) (fun d _ _ _ _ h => by cases d <;> exact h) (by as_aux_lemma => kernel_rfl) (by as_aux_lemma => kernel_rfl) ?_
      simp only [List.drop_zero, List.take_succ_cons, List.take_zero]
      iterate 30 (refine wpQE_step (fun K hK => ?_); go_simp; refine hK _ ?_; clear hK K)
      refine wpQE_nil ?_
      refine wpE_done (by as_aux_lemma => kernel_rfl) (fun w3 hb3 => ?_) 0
      have hbe := hbr.out.trans (hb3.mono hbr.out.size)
      clear hd1 hd2 hd3 hd4 hd5 hd6 hd7 hd8 hb3
      replace hbe := hide hbe
      go_wp2_with fail
      exact ⟨⟨j + 1, by omega, by go_num, hbe.out⟩, by simp [intOf]; omega⟩
    · have hji : ¬ (j : Int) < (n2 : Int) := by omega
      replace hx1 := hide hx1
      replace hx2 := hide hx2
      replace hgar := hide hgar
      replace hgbr := hide hgbr
      replace hbr := hide hbr
      go_wp2_with fail
      go_ret
      exact ⟨rfl, hb2.out.trans (hbr.out.mono hb2.out.size)⟩
theorem allB6_head (cls lab hop shi slo dhi dlo proto : Nat) (es : List (Int × List UInt8)) (ps : List UInt8) : (allB6 cls lab hop shi slo dhi dlo proto es ps).getD 0 0 = UInt8.ofNat (96 + cls / 16) := rfl
set_option maxRecDepth 4000 in
set_option maxHeartbeats 4000000 in
theorem awake_any (w : World) : Calls Try.prog 15 #[] w fun e w' => e = .returned (.bool true) ∧ Below w.heap.size w w' := by
  go_enter Try.func15, Try.ntmps15
  go_wp2_with fail
  refine (bytes_any 0 0 0 true 0 0 true 0 0 none 0 0 6 [] none 0 0 [] _ (IsX.nil _ _ _) (by omega) (by unfold maxLen; omega) (IsB.nil _ _ _) (by omega) (by unfold maxLen; omega) rfl rfl (by omega) (by omega) (by omega) (by omega) (by omega) (by omega) (by omega) (by omega) (by omega) (by omega) (fun e he => by cases he) (fun e he => by cases he) (by decide)).mono ?_
  rintro e w1 ⟨v, rfl, hown, hb⟩
  have hl : (allB6 0 0 0 0 0 0 0 6 (pes []) []).length = 40 := by rw [allB6_length]; rfl
  obtain ⟨A, c, rfl, hc, _, hi⟩ := hown.form
  rw [hl] at hi hc ⊢
  obtain ⟨b, off, v0, rfl, _, hv0, _, hc0⟩ := hi.byte (i := 0) (by omega)
  rw [allB6_head] at hv0
  obtain rfl : v0 = 96 := by rw [← hv0]; decide
  rw [Nat.add_zero] at hc0
  have k0 : (0 : Int) < ((40 : Nat) : Int) := by omega
  clear hown hi hl hv0
  replace hb := hide hb
  go_wp2_with fail
  go_ret
  exact ⟨by simp, hb.out⟩
end Six
end Go.Proofs.Ytdmgbngdpjcliaa
/- tun.Wrap and tun.Over by contract. Conditions: slices of bytes that read as lists, at most 4096 bytes. -/
namespace Go.Proofs.Ytdmgbngdpjcliaa
open Go.RowKit Go.ChangeShapes Go.WideShapes Go.ChangeAt Go.Deep
namespace Tun
theorem over_any (v6 : Bool) (w : World) : Calls Try.prog 25 #[.bool v6] w fun e w' => e = .returned (.int .i64 (if v6 then 40 else 20)) ∧ w = w' := by
  rcases v6 with _ | _
  · go_enter Try.func25, Try.ntmps25
    go_wp2_with fail
    go_ret
    exact ⟨rfl, rfl⟩
  · go_enter Try.func25, Try.ntmps25
    go_wp2_with fail
    go_ret
    exact ⟨rfl, rfl⟩
/-- Why a packet can't be put into another one; 0: it can. -/
def wrapK (n : Nat) (xs : List UInt8) (sv : Bool) (shi slo : Int) (dv : Bool) (dhi dlo : Int) : Nat :=
  if innerK n xs ≠ 0 then innerK n xs else if sv ≠ dv ∨ Four.okA sv shi slo = false ∨ Four.okA dv dhi dlo = false then 18 else 0
set_option maxRecDepth 20000 in
set_option maxHeartbeats 4000000 in
theorem wrap_no (sv : Bool) (shi slo : Int) (dv : Bool) (dhi dlo : Int) (A : Option Addr) (n c : Nat) (xs : List UInt8) (w : World) (hx : IsB w w.heap.size A n xs) (hn : n ≤ 4096) (K : Nat) (hK : wrapK n xs sv shi slo dv dhi dlo = K) (hK0 : K ≠ 0) :
    Calls Try.prog 20 #[addrV sv shi slo, addrV dv dhi dlo, .slice A n c] w fun e w' => e = .returned (.tuple #[.slice none 0 0, .int .i64 (K : Int)]) ∧ Below w.heap.size w w' := by
  obtain ⟨w1, hw1⟩ : ∃ w1, (w.alloc (.cells #[.bool sv, .int .u64 shi, .int .u64 slo] 26)).alloc (.cells #[.bool dv, .int .u64 dhi, .int .u64 dlo] 26) = w1 := ⟨_, rfl⟩
  have hb1 : Below w.heap.size w w1 := hw1 ▸ ((Below.refl _ _).alloc (Nat.le_refl _) _).alloc (by simp) _
  have hgs : w1.heap[w.heap.size]? = some (.cells #[.bool sv, .int .u64 shi, .int .u64 slo] 26 (0, 0)) := hw1 ▸ blk_old _ (by simp) (blk_new _ _ _)
  have hgd : w1.heap[w.heap.size + 1]? = some (.cells #[.bool dv, .int .u64 dhi, .int .u64 dlo] 26 (0, 0)) := hw1 ▸ (by simpa using blk_new (w.alloc (.cells #[.bool sv, .int .u64 shi, .int .u64 slo] 26)) 26 #[.bool dv, .int .u64 dhi, .int .u64 dlo])
  have hz1 : w.heap.size + 1 < w1.heap.size := by rw [← hw1]; simp
  have hx1 := hx.on hb1
  have hcs := blk_cell hgs
  have hcd := blk_cell hgd
  obtain ⟨p, hp⟩ : ∃ p, innerP xs = p := ⟨_, rfl⟩
  obtain ⟨k, hk⟩ : ∃ k, innerK n xs = k := ⟨_, rfl⟩
  unfold wrapK at hK
  rw [hk] at hK
  have hnm : n ≤ maxLen := by unfold maxLen; omega
  replace hx := hide hx
  replace hx1 := hide hx1
  replace hb1 := hide hb1
  replace hgs := hide hgs
  replace hgd := hide hgd
  replace hp := hide hp
  replace hk := hide hk
  unfold addrV
  by_cases hk0 : k ≠ 0
  · rw [if_pos hk0] at hK
    subst hK
    have t1 : ((k : Int) != 0) = true := by rw [bne_iff_ne]; omega
    go_enter Try.func20, Try.ntmps20
    go_wp2_with fail
    refine (inner_any A n c xs _ hx1.out hnm p k hp.out hk.out).mono ?_
    rintro e w' ⟨rfl, rfl⟩
    clear hw1
    go_wp2_with fail
    go_ret2
    exact ⟨rfl, hb1.out⟩
  rw [if_neg hk0] at hK
  have t1 : ((k : Int) != 0) = false := by rw [bne_eq_false_iff_eq]; omega
  have hbad : sv ≠ dv ∨ Four.okA sv shi slo = false ∨ Four.okA dv dhi dlo = false := by
    by_cases h : sv ≠ dv ∨ Four.okA sv shi slo = false ∨ Four.okA dv dhi dlo = false
    · exact h
    · rw [if_neg h] at hK
      exact absurd hK.symm hK0
  obtain rfl : K = 18 := by rw [← hK, if_pos hbad]
  clear hK hk0
  by_cases hsd : sv ≠ dv
  · have t2 : (sv != dv) = true := by rw [bne_iff_ne]; exact hsd
    replace hbad := hide hbad
    replace hsd := hide hsd
    go_enter Try.func20, Try.ntmps20
    go_wp2_with fail
    refine (inner_any A n c xs _ hx1.out hnm p k hp.out hk.out).mono ?_
    rintro e w' ⟨rfl, rfl⟩
    clear hw1
    go_wp2_with fail
    go_ret2
    exact ⟨rfl, hb1.out⟩
  obtain rfl : sv = dv := by simpa using hsd
  rcases ha : Four.okA sv shi slo with _ | _
  · replace hbad := hide hbad
    replace ha := hide ha
    clear hsd
    go_enter Try.func20, Try.ntmps20
    go_wp2_with fail
    refine (inner_any A n c xs _ hx1.out hnm p k hp.out hk.out).mono ?_
    rintro e w' ⟨rfl, rfl⟩
    clear hw1
    go_wp2_with fail
    refine (Four.addr_right sv shi slo false _ ha.out).mono ?_
    rintro e w2 ⟨rfl, hb2⟩
    have hB2 := hb1.out.trans (hb2.mono hb1.out.size)
    clear hb2
    replace hB2 := hide hB2
    go_wp2_with fail
    go_ret2
    exact ⟨rfl, hB2.out⟩
  · have hd : Four.okA sv dhi dlo = false := by
      rcases hbad with h | h | h
      · exact absurd rfl h
      · rw [ha] at h; cases h
      · exact h
    replace hbad := hide hbad
    replace ha := hide ha
    replace hd := hide hd
    clear hsd
    go_enter Try.func20, Try.ntmps20
    go_wp2_with fail
    refine (inner_any A n c xs _ hx1.out hnm p k hp.out hk.out).mono ?_
    rintro e w' ⟨rfl, rfl⟩
    clear hw1
    go_wp2_with fail
    refine (Four.addr_right sv shi slo true _ ha.out).mono ?_
    rintro e w2 ⟨rfl, hb2⟩
    have hgd2 := blk_below hb2 hz1 hgd.out
    have hB2 := hb1.out.trans (hb2.mono hb1.out.size)
    clear hb2 hcs hcd
    have hcd := blk_cell hgd2
    replace hB2 := hide hB2
    replace hgd2 := hide hgd2
    go_wp2_with fail
    refine (Four.addr_right sv dhi dlo false _ hd.out).mono ?_
    rintro e w3 ⟨rfl, hb3⟩
    have hB3 := hB2.out.trans (hb3.mono hB2.out.size)
    clear hb3 hcd
    replace hB3 := hide hB3
    go_wp2_with fail
    go_ret2
    exact ⟨rfl, hB3.out⟩
set_option maxRecDepth 20000 in
set_option maxHeartbeats 4000000 in
theorem wrap_six (shi slo dhi dlo : Nat) (A : Option Addr) (n c : Nat) (xs : List UInt8) (w : World) (hx : IsB w w.heap.size A n xs) (hn : n ≤ 4096) (hnc : n ≤ c) (hcm : c ≤ maxLen) (p : Nat) (hp : innerP xs = p) (hk : innerK n xs = 0)
    (b5 : shi < 18446744073709551616) (b6 : slo < 18446744073709551616) (b7 : dhi < 18446744073709551616) (b8 : dlo < 18446744073709551616) (hpp : p = 4 ∨ p = 41) :
    Calls Try.prog 20 #[addrV true shi slo, addrV true dhi dlo, .slice A n c] w fun e w' => ∃ v, e = .returned (.tuple #[v, .int .i64 0]) ∧ OwnB w' w.heap.size v (Six.allB6 0 0 64 shi slo dhi dlo p [] xs) ∧ Below w.heap.size w w' := by
  obtain ⟨w1, hw1⟩ : ∃ w1, (w.alloc (.cells #[.bool true, .int .u64 shi, .int .u64 slo] 26)).alloc (.cells #[.bool true, .int .u64 dhi, .int .u64 dlo] 26) = w1 := ⟨_, rfl⟩
  have hb1 : Below w.heap.size w w1 := hw1 ▸ ((Below.refl _ _).alloc (Nat.le_refl _) _).alloc (by simp) _
  have hgs : w1.heap[w.heap.size]? = some (.cells #[.bool true, .int .u64 shi, .int .u64 slo] 26 (0, 0)) := hw1 ▸ blk_old _ (by simp) (blk_new _ _ _)
  have hgd : w1.heap[w.heap.size + 1]? = some (.cells #[.bool true, .int .u64 dhi, .int .u64 dlo] 26 (0, 0)) := hw1 ▸ (by simpa using blk_new (w.alloc (.cells #[.bool true, .int .u64 shi, .int .u64 slo] 26)) 26 #[.bool true, .int .u64 dhi, .int .u64 dlo])
  have hz1 : w.heap.size + 1 < w1.heap.size := by rw [← hw1]; simp
  have hx1 := hx.on hb1
  have hcs := blk_cell hgs
  have hcd := blk_cell hgd
  have hnm : n ≤ maxLen := by unfold maxLen; omega
  have hp4 : p ≤ 255 := by omega
  have hri : Six.rightHB 0 0 64 true true p (Six.pes []) = true := by
    rcases hpp with rfl | rfl <;> decide
  replace hx := hide hx
  replace hx1 := hide hx1
  replace hb1 := hide hb1
  replace hgs := hide hgs
  replace hgd := hide hgd
  replace hp := hide hp
  replace hk := hide hk
  replace hpp := hide hpp
  replace hri := hide hri
  unfold addrV
  go_enter Try.func20, Try.ntmps20
  go_wp2_with fail
  refine (inner_any A n c xs _ hx1.out hnm p 0 hp.out hk.out).mono ?_
  rintro e w' ⟨rfl, rfl⟩
  clear hw1
  go_wp2_with fail
  refine (Four.addr_right true shi slo true _ rfl).mono ?_
  rintro e w2 ⟨rfl, hb2⟩
  have hgs2 := blk_below hb2 (by omega) hgs.out
  have hgd2 := blk_below hb2 hz1 hgd.out
  have hB2 := hb1.out.trans (hb2.mono hb1.out.size)
  have hz2 : w.heap.size + 1 < w2.heap.size := by have := hb2.size; omega
  have hx2 := hx1.out.on hb2
  clear hb2 hcs hcd
  have hcs := blk_cell hgs2
  have hcd := blk_cell hgd2
  replace hB2 := hide hB2
  replace hgd2 := hide hgd2
  replace hgs2 := hide hgs2
  replace hx2 := hide hx2
  go_wp2_with fail
  refine (Four.addr_right true dhi dlo true _ rfl).mono ?_
  rintro e w3 ⟨rfl, hb3⟩
  have hgs3 := blk_below hb3 (by omega) hgs2.out
  have hgd3 := blk_below hb3 hz2 hgd2.out
  have hB3 := hB2.out.trans (hb3.mono hB2.out.size)
  have hx3 := hx2.out.on hb3
  clear hb3 hcs hcd
  have hcs := blk_cell hgs3
  have hcd := blk_cell hgd3
  replace hB3 := hide hB3
  replace hgd3 := hide hgd3
  replace hgs3 := hide hgs3
  replace hx3 := hide hx3
  go_wp2_with fail
  refine (Six.bytes_any 0 0 64 true shi slo true dhi dlo none 0 0 p [] A n c xs _ (Six.IsX.nil _ _ _) (by omega) (by unfold maxLen; omega) hx3.out hnc hcm rfl rfl (by omega) (by omega) (by omega) hp4 b5 b6 b7 b8 (by omega) hn (fun e he => by cases he) (fun e he => by cases he) hri.out).mono ?_
  rintro e w4 ⟨v, rfl, hown, hb4⟩
  have hB4 := hB3.out.trans (hb4.mono hB3.out.size)
  have hown4 := hown.weaken hB3.out.size
  clear hb4 hown hcs hcd
  replace hB4 := hide hB4
  replace hown4 := hide hown4
  go_wp2_with fail
  go_ret2
  exact ⟨_, rfl, hown4.out, hB4.out⟩
set_option maxRecDepth 20000 in
set_option maxHeartbeats 4000000 in
theorem wrap_four (slo dlo : Nat) (A : Option Addr) (n c : Nat) (xs : List UInt8) (w : World) (hx : IsB w w.heap.size A n xs) (hn : n ≤ 4096) (p : Nat) (hp : innerP xs = p) (hk : innerK n xs = 0)
    (b6 : slo < 4294967296) (b8 : dlo < 4294967296) (hpp : p = 4 ∨ p = 41) :
    Calls Try.prog 20 #[addrV false 0 slo, addrV false 0 dlo, .slice A n c] w fun e w' => ∃ v, e = .returned (.tuple #[v, .int .i64 0]) ∧ OwnB w' w.heap.size v (Four.hdB 0 0 16384 64 p slo dlo [] n ++ xs) ∧ Below w.heap.size w w' := by
  obtain ⟨w1, hw1⟩ : ∃ w1, (w.alloc (.cells #[.bool false, .int .u64 0, .int .u64 slo] 26)).alloc (.cells #[.bool false, .int .u64 0, .int .u64 dlo] 26) = w1 := ⟨_, rfl⟩
  have hb1 : Below w.heap.size w w1 := hw1 ▸ ((Below.refl _ _).alloc (Nat.le_refl _) _).alloc (by simp) _
  have hgs : w1.heap[w.heap.size]? = some (.cells #[.bool false, .int .u64 0, .int .u64 slo] 26 (0, 0)) := hw1 ▸ blk_old _ (by simp) (blk_new _ _ _)
  have hgd : w1.heap[w.heap.size + 1]? = some (.cells #[.bool false, .int .u64 0, .int .u64 dlo] 26 (0, 0)) := hw1 ▸ (by simpa using blk_new (w.alloc (.cells #[.bool false, .int .u64 0, .int .u64 slo] 26)) 26 #[.bool false, .int .u64 0, .int .u64 dlo])
  have hz1 : w.heap.size + 1 < w1.heap.size := by rw [← hw1]; simp
  have hx1 := hx.on hb1
  have hcs := blk_cell hgs
  have hcd := blk_cell hgd
  have hnm : n ≤ maxLen := by unfold maxLen; omega
  have hp4 : p ≤ 255 := by omega
  have ho1 : Four.okA false 0 slo = true := by simp [Four.okA]; omega
  have ho2 : Four.okA false 0 dlo = true := by simp [Four.okA]; omega
  replace hx := hide hx
  replace hx1 := hide hx1
  replace hb1 := hide hb1
  replace hgs := hide hgs
  replace hgd := hide hgd
  replace hp := hide hp
  replace hk := hide hk
  replace hpp := hide hpp
  replace ho1 := hide ho1
  replace ho2 := hide ho2
  unfold addrV
  go_enter Try.func20, Try.ntmps20
  go_wp2_with fail
  refine (inner_any A n c xs _ hx1.out hnm p 0 hp.out hk.out).mono ?_
  rintro e w' ⟨rfl, rfl⟩
  clear hw1
  go_wp2_with fail
  refine (Four.addr_right false 0 slo true _ ho1.out).mono ?_
  rintro e w2 ⟨rfl, hb2⟩
  have hgs2 := blk_below hb2 (by omega) hgs.out
  have hgd2 := blk_below hb2 hz1 hgd.out
  have hB2 := hb1.out.trans (hb2.mono hb1.out.size)
  have hz2 : w.heap.size + 1 < w2.heap.size := by have := hb2.size; omega
  have hx2 := hx1.out.on hb2
  clear hb2 hcs hcd
  have hcs := blk_cell hgs2
  have hcd := blk_cell hgd2
  replace hB2 := hide hB2
  replace hgd2 := hide hgd2
  replace hgs2 := hide hgs2
  replace hx2 := hide hx2
  go_wp2_with fail
  refine (Four.addr_right false 0 dlo true _ ho2.out).mono ?_
  rintro e w3 ⟨rfl, hb3⟩
  have hgs3 := blk_below hb3 (by omega) hgs2.out
  have hgd3 := blk_below hb3 hz2 hgd2.out
  have hB3 := hB2.out.trans (hb3.mono hB2.out.size)
  have hx3 := hx2.out.on hb3
  clear hb3 hcs hcd
  have hcs := blk_cell hgs3
  have hcd := blk_cell hgd3
  replace hB3 := hide hB3
  replace hgd3 := hide hgd3
  replace hgs3 := hide hgs3
  replace hx3 := hide hx3
  go_wp2_with fail
  refine (Four.bytes_yes 0 0 true false 0 64 p slo dlo 16384 rfl none 0 0 [] A n c xs _ (by omega) (by omega) (by omega) (by omega) hp4 b6 b8 (by omega) (by omega) (IsB.nil _ _ _) hx3.out (by omega)).mono ?_
  rintro e w4 ⟨v, rfl, hown, hb4⟩
  have hB4 := hB3.out.trans (hb4.mono hB3.out.size)
  have hown4 := hown.weaken hB3.out.size
  clear hb4 hown hcs hcd
  replace hB4 := hide hB4
  replace hown4 := hide hown4
  go_wp2_with fail
  go_ret2
  exact ⟨_, rfl, hown4.out, hB4.out⟩
end Tun
end Go.Proofs.Ytdmgbngdpjcliaa
