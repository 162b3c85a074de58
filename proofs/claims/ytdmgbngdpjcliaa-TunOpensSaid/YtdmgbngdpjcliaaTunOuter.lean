/- tun.inner and tun.outer by contract. Conditions: slices of bytes that read as lists, sizes below 2^40. -/
import Derived.Test.YtdmgbngdpjcliaaTunBase
import Derived.Test.YtdmgbngdpjcliaaRegionS
namespace Go.Proofs.Ytdmgbngdpjcliaa
open Go.RowKit Go.ChangeShapes Go.WideShapes Go.ChangeAt Go.Deep
namespace Tun
/-- Which protocol's number a packet within another one has; 0: none. -/
def innerP (xs : List UInt8) : Nat := if (xs.getD 0 0).toNat / 16 = 4 then 4 else if (xs.getD 0 0).toNat / 16 = 6 then 41 else 0
/-- Why none. -/
def innerK (n : Nat) (xs : List UInt8) : Nat := if n = 0 then 2 else if (xs.getD 0 0).toNat / 16 = 4 ∨ (xs.getD 0 0).toNat / 16 = 6 then 0 else 10
theorem inner_any (A : Option Addr) (n c : Nat) (xs : List UInt8) (w : World) (hx : IsB w w.heap.size A n xs) (hn : n ≤ maxLen) (p k : Nat) (hp : innerP xs = p) (hk : innerK n xs = k) :
    Calls Try.prog 46 #[.slice A n c] w fun e w' => e = .returned (.tuple #[.int .i64 (p : Int), .int .i64 (k : Int)]) ∧ w = w' := by
  unfold maxLen at hn
  by_cases h0 : n = 0
  · subst h0
    have hx0 : xs = [] := List.eq_nil_of_length_eq_zero hx.1
    subst hx0
    obtain rfl : p = 0 := hp.symm
    obtain rfl : k = 2 := hk.symm
    replace hx := hide hx
    replace hp := hide hp
    replace hk := hide hk
    go_enter Try.func46, Try.ntmps46
    go_wp2_with fail
    go_ret2
    exact ⟨rfl, rfl⟩
  · obtain ⟨b, off, v0, rfl, hbl, hv0, hv0l, hc0⟩ := hx.byte (i := 0) (by omega)
    rw [Nat.add_zero] at hc0
    unfold innerP at hp
    unfold innerK at hk
    rw [hv0] at hp hk
    rw [if_neg h0] at hk
    have t0 : ((n : Int) == 0) = false := by rw [beq_eq_false_iff_ne]; omega
    have t1 : (0 : Int) < (n : Int) := by omega
    have t2 : 0 < n := by omega
    replace hx := hide hx
    replace hv0 := hide hv0
    by_cases h4 : v0 / 16 = 4
    · rw [if_pos h4] at hp
      rw [if_pos (.inl h4)] at hk
      subst hp hk
      have t3 : (((v0 : Int) / 16) == 4) = true := by rw [beq_iff_eq]; omega
      replace h4 := hide h4
      replace h0 := hide h0
      go_enter Try.func46, Try.ntmps46
      go_wp2_with fail
      go_ret2
      exact ⟨rfl, rfl⟩
    · rw [if_neg h4] at hp
      have t3 : (((v0 : Int) / 16) == 4) = false := by rw [beq_eq_false_iff_ne]; omega
      by_cases h6 : v0 / 16 = 6
      · rw [if_pos h6] at hp
        rw [if_pos (.inr h6)] at hk
        subst hp hk
        have t4 : (((v0 : Int) / 16) == 6) = true := by rw [beq_iff_eq]; omega
        replace h4 := hide h4
        replace h0 := hide h0
        replace h6 := hide h6
        go_enter Try.func46, Try.ntmps46
        go_wp2_with fail
        go_ret2
        exact ⟨rfl, rfl⟩
      · rw [if_neg h6] at hp
        rw [if_neg (by omega)] at hk
        subst hp hk
        have t4 : (((v0 : Int) / 16) == 6) = false := by rw [beq_eq_false_iff_ne]; omega
        replace h4 := hide h4
        replace h0 := hide h0
        replace h6 := hide h6
        go_enter Try.func46, Try.ntmps46
        go_wp2_with fail
        go_ret2
        exact ⟨rfl, rfl⟩
/-- tun.outer, wherever the bytes lie. -/
def OutIs (n : Nat) (xs : List UInt8) (K : Nat) (b1 : Bool) (sh sl : Int) (b2 : Bool) (dh dl : Int) (proto m1 : Nat) (rest : List UInt8) : Prop :=
  ∀ (A : Option Addr) (c : Nat) (W : World), IsB W W.heap.size A n xs → n ≤ c → c ≤ maxLen → Calls Try.prog 49 #[.slice A n c] W fun e w' => ∃ A2 c2,
    e = .returned (.tuple #[addrV b1 sh sl, addrV b2 dh dl, .int .i64 (proto : Int), .slice A2 m1 c2, .int .i64 (K : Int)]) ∧ IsB w' w'.heap.size A2 m1 rest ∧ m1 ≤ c2 ∧ c2 ≤ maxLen ∧ Below W.heap.size W w'
set_option maxRecDepth 20000 in
set_option maxHeartbeats 4000000 in
theorem outer_six (n : Nat) (xs : List UInt8) (K0 : Nat) (cl la ho : Int) (b1 : Bool) (sh sl : Int) (b2 : Bool) (dh dl : Int) (acc : List (Int × List UInt8)) (nx m1 : Nat) (rest : List UInt8) (hS : SixIs n xs K0 cl la ho b1 sh sl b2 dh dl acc nx m1 rest)
    (h0 : 0 < n) (hv : (xs.getD 0 0).toNat / 16 = 6) (K : Nat) (hK : (if K0 = 0 ∧ 0 < Six.fragP acc then 21 else K0) = K) : OutIs n xs K b1 sh sl b2 dh dl nx m1 rest := by
  intro A c w hx hnc hcm
  obtain ⟨w1, hw1⟩ : ∃ w1, (w.alloc (.cells #[.bool false, .int .u64 0, .int .u64 0] 26)).alloc (.cells #[.bool false, .int .u64 0, .int .u64 0] 26) = w1 := ⟨_, rfl⟩
  have hb1 : Below w.heap.size w w1 := hw1 ▸ ((Below.refl _ _).alloc (Nat.le_refl _) _).alloc (by simp) _
  have hgs : w1.heap[w.heap.size]? = some (.cells #[.bool false, .int .u64 0, .int .u64 0] 26 (0, 0)) := hw1 ▸ blk_old _ (by simp) (blk_new _ _ _)
  have hgd : w1.heap[w.heap.size + 1]? = some (.cells #[.bool false, .int .u64 0, .int .u64 0] 26 (0, 0)) := hw1 ▸ (by simpa using blk_new (w.alloc (.cells #[.bool false, .int .u64 0, .int .u64 0] 26)) 26 #[.bool false, .int .u64 0, .int .u64 0])
  have hz1 : w.heap.size + 1 < w1.heap.size := by rw [← hw1]; simp
  have hx1 := hx.on hb1
  obtain ⟨b, off, v0, rfl, hbl, hv0, hv0l, hc0⟩ := hx1.byte (i := 0) h0
  rw [Nat.add_zero] at hc0
  rw [hv0] at hv
  have t1 : (((v0 : Int) / 16) == 6) = true := by rw [beq_iff_eq]; omega
  have t2 : (0 : Int) < (n : Int) := by omega
  obtain ⟨fb, hfb⟩ : ∃ fb, decide (K0 = 0 ∧ 0 < Six.fragP acc) = fb := ⟨_, rfl⟩
  replace hx := hide hx
  replace hx1 := hide hx1
  replace hb1 := hide hb1
  replace hgs := hide hgs
  replace hgd := hide hgd
  replace hS := hide hS
  replace hK := hide hK
  replace hfb := hide hfb
  replace hv0 := hide hv0
  replace hv := hide hv
  go_enter Try.func49, Try.ntmps49
  go_wp2_with fail
  clear hw1
  refine (hS.out _ c _ hx1.out hnc hcm).mono ?_
  rintro e w2 ⟨X, m, xc, A2, c2, es, rfl, hpe, hX, hmx, hxm, hr, hm2, hc2, hb2⟩
  obtain ⟨wa, hwa⟩ : ∃ wa, w2.alloc (Six.hdC cl la ho b1 sh sl b2 dh dl X m xc nx) = wa := ⟨_, rfl⟩
  have hba : Below w2.heap.size w2 wa := hwa ▸ (Below.refl _ _).alloc (Nat.le_refl _) _
  have hga := hwa ▸ blk_new w2 29 #[.int .i64 cl, .int .i64 la, .int .i64 ho, .bool b1, .int .u64 sh, .int .u64 sl, .bool b2, .int .u64 dh, .int .u64 dl, .slice X m xc, .int .i64 nx]
  have hla : w2.heap.size < wa.heap.size := by rw [← hwa]; simp
  unfold Six.hdC at hwa
  have hb1a := hb2.trans (hba.mono hb2.size)
  have hXa := hX.on hba
  have hra := hr.on hba
  have hcg := blk_cell hga
  have hz2 := hb2.size
  have hmL : m ≤ maxLen := by omega
  clear hX hr hba hb2 hc0
  replace hga := hide hga
  replace hXa := hide hXa
  replace hra := hide hra
  replace hb1a := hide hb1a
  replace hpe := hide hpe
  go_upto_region 3 with fail
  clear hwa
  go_cut [33] (fun sv wx => ∃ w4, sv = .bool fb ∧ Below wa.heap.size wa w4 ∧ w4 = wx)
  case first =>
    by_cases hK0 : K0 = 0
    · have t3 : ((K0 : Int) == 0) = true := by rw [beq_iff_eq]; omega
      obtain ⟨f, hf⟩ : ∃ f, beN (Six.partB es) 1 2 / 8 = f := ⟨_, rfl⟩
      have hfe : decide (0 < f) = fb := by
        rw [← hfb.out, ← hf, Six.pes_frag, hpe.out]
        exact decide_eq_decide.2 ⟨fun h => ⟨hK0, h⟩, fun h => h.2⟩
      replace hf := hide hf
      replace hK0 := hide hK0
      replace hfe := hide hfe
      go_wp2_with fail
      refine (Six.frag_any cl la ho b1 sh sl b2 dh dl X m xc nx es _ hXa.out hmL).mono ?_
      rintro e w3 ⟨rfl, hb3⟩
      rw [hf.out]
      replace hb3 := hide hb3
      go_wp2_with fail
      go_meet
      exact ⟨_, by rw [hfe.out], hb3.out, rfl⟩
    · have t3 : ((K0 : Int) == 0) = false := by rw [beq_eq_false_iff_ne]; omega
      have hfe : fb = false := by rw [← hfb.out]; exact decide_eq_false (fun h => hK0 h.1)
      replace hK0 := hide hK0
      go_wp2_with fail
      go_meet
      exact ⟨_, by rw [hfe], Below.refl _ _, rfl⟩
  case rest =>
  obtain ⟨wx, rfl, hbx, rfl⟩ := hcut
  have hgx := blk_below hbx hla hga.out
  have hlx := Nat.lt_of_lt_of_le hla hbx.size
  have hrx := hra.out.on hbx
  have hb1x := hb1a.out.trans (hbx.mono (by have := hb1a.out.size; omega))
  have hgsx := blk_below hb1x (by omega) hgs.out
  have hgdx := blk_below hb1x hz1 hgd.out
  have hzx := hb1x.size
  clear hcg hbx
  replace hgx := hide hgx
  replace hrx := hide hrx
  replace hb1x := hide hb1x
  replace hgsx := hide hgsx
  replace hgdx := hide hgdx
  have hKe : (if fb = true then 21 else K0) = K := by
    rw [← hK.out, ← hfb.out]
    simp only [decide_eq_true_eq]
  replace hKe := hide hKe
  rcases fb with _ | _
  all_goals
    go_upto_region 5 with fail
    refine wp_region_S wx.heap.size (fun k => k = w.heap.size ∨ k = w.heap.size + 1) (by as_aux_lemma => kernel_rfl) ?_
    intro wd hbd
    have hzd := hbd.size
    have hgsd := blk_below hbd (by omega) hgsx.out
    have hgdd := blk_below hbd (by omega) hgdx.out
    have hghd := blk_below hbd hlx hgx.out
    have hrd := hrx.out.on hbd
    have hn1 : ¬ (w2.heap.size = w.heap.size ∨ w2.heap.size = w.heap.size + 1) := by omega
    have hcl := fun (l : KeptSW wx.heap.size (fun k => k = w.heap.size ∨ k = w.heap.size + 1) wd) (o : Nat) => blk_cell (l.blk hghd hlx hn1) o
    have hcs := blk_cell hgsd
    have hfs := blk_free hgsd
    obtain ⟨w8, e8, hg8, hgr8⟩ := set3 hgsd (.bool b1) (.int .u64 sh) (.int .u64 sl)
    have hgd8 := grown_other hgr8 (show w.heap.size + 1 < wd.heap.size by omega) (by omega) hgdd
    have hcd := blk_cell hgd8
    have hfd := blk_free hgd8
    obtain ⟨w9, e9, hg9, hgr9⟩ := set3 hgd8 (.bool b2) (.int .u64 dh) (.int .u64 dl)
    have hz8 := hgr8.size
    have hg89 := grown_other hgr9 (show w.heap.size < w8.heap.size by omega) (by omega) hg8
    have hB9 : Below w.heap.size w w9 := hb1.out.trans (((hb1x.out.trans (hbd.mono hzx)).mono (by omega)).trans ((below_grown hgr8 (by omega) (Nat.le_refl _)).trans (below_grown hgr9 (by omega) (by omega))))
    have hk8 : KeptS wx.heap.size (fun k => k = w.heap.size ∨ k = w.heap.size + 1) wd w8 := e8 ▸ keptS_set (keptS_set (keptS_set (keptS_refl _ _ _) (.inl rfl) _) (.inl rfl) _) (.inl rfl) _
    have hk9 : KeptS wx.heap.size (fun k => k = w.heap.size ∨ k = w.heap.size + 1) w8 w9 := e9 ▸ keptS_set (keptS_set (keptS_set (keptS_refl _ _ _) (.inr rfl) _) (.inr rfl) _) (.inr rfl) _
    have hr9 := (isB_addr (isB_addr hrd hgr8 (Nat.le_refl _) hgsd) hgr9 hz8 hgd8).more (Nat.le_trans hz8 hgr9.size)
    clear hgr8 hgr9
    replace hg8 := hide hg8
    replace hg89 := hide hg89
    replace hg9 := hide hg9
    replace hB9 := hide hB9
    replace hgd8 := hide hgd8
    replace hk8 := hide hk8
    replace hk9 := hide hk9
    replace hgsd := hide hgsd
    replace hgdd := hide hgdd
    replace hghd := hide hghd
    replace hrd := hide hrd
    replace hbd := hide hbd
    replace hr9 := hide hr9
    refine wpS_seg wx.heap.size (fun k => k = w.heap.size ∨ k = w.heap.size + 1) 0 8 (fuel := 5) (by as_aux_lemma => kernel_rfl) (fun d _ _ _ _ h => by cases d <;> exact h) (by as_aux_lemma => kernel_rfl) (by as_aux_lemma => kernel_rfl) ?_
    simp only [List.drop_zero, List.take_succ_cons, List.take_zero]
    iterate 8 (refine wpQS_step (fun K hK => ?_); go_simp; refine hK _ ?_; clear hK K)
    refine wpQF_nil ?_
    refine wpF_step 8 rfl (by as_aux_lemma => kernel_rfl) (fun K hK => ?_)
    go_simp
    refine hK _ _ hk8.out ?_
    clear hK K
    refine wpF_step 9 rfl (by as_aux_lemma => kernel_rfl) (fun K hK => ?_)
    go_simp
    refine hK _ _ hk9.out ?_
    clear hK K
    refine wpF_step 10 rfl (by as_aux_lemma => kernel_rfl) (fun K hK => ?_)
    go_simp
    refine hK _ _ (keptS_refl _ _ _) ?_
    clear hK K
    refine wpF_step 11 rfl (by as_aux_lemma => kernel_rfl) (fun K hK => ?_)
    go_simp
    refine hK _ _ (keptS_refl _ _ _) ?_
    clear hK K
    refine wpF_step 12 rfl (by as_aux_lemma => kernel_rfl) (fun K hK => ?_)
    go_simp
    refine hK _ _ (keptS_refl _ _ _) ?_
    clear hK K
    refine wpF_done (by as_aux_lemma => kernel_rfl) ?_ 0
    clear hcl hcs hfs hcd hfd e8 e9
    have q1 := blk_cell hg89.out
    have q2 := blk_cell hg9.out
    go_wp2_with fail
    refine bodyPost_ret (v := .tuple #[addrV b1 sh sl, addrV b2 dh dl, .int .i64 nx, .slice A2 m1 c2, .int .i64 (K : Int)]) (by simp [results, Try.results49, go_sem, q1, q2, ← hKe.out]) rfl ⟨A2, c2, rfl, hr9.out, hm2, hc2, hB9.out⟩
set_option maxRecDepth 20000 in
set_option maxHeartbeats 4000000 in
theorem outer_four (n : Nat) (xs : List UInt8) (K0 tos id : Nat) (df mf : Bool) (frag ttl proto slo dlo n1 m1 : Nat) (rest : List UInt8) (hS : FourIs n xs K0 tos id df mf frag ttl proto slo dlo n1 m1 rest)
    (hv : n = 0 ∨ (xs.getD 0 0).toNat / 16 ≠ 6) (K : Nat) (hK : (if K0 = 0 ∧ (0 < frag ∨ mf = true) then 21 else K0) = K) : OutIs n xs K false 0 slo false 0 dlo proto m1 rest := by
  intro A c w hx hnc hcm
  obtain ⟨w1, hw1⟩ : ∃ w1, (w.alloc (.cells #[.bool false, .int .u64 0, .int .u64 0] 26)).alloc (.cells #[.bool false, .int .u64 0, .int .u64 0] 26) = w1 := ⟨_, rfl⟩
  have hb1 : Below w.heap.size w w1 := hw1 ▸ ((Below.refl _ _).alloc (Nat.le_refl _) _).alloc (by simp) _
  have hgs : w1.heap[w.heap.size]? = some (.cells #[.bool false, .int .u64 0, .int .u64 0] 26 (0, 0)) := hw1 ▸ blk_old _ (by simp) (blk_new _ _ _)
  have hgd : w1.heap[w.heap.size + 1]? = some (.cells #[.bool false, .int .u64 0, .int .u64 0] 26 (0, 0)) := hw1 ▸ (by simpa using blk_new (w.alloc (.cells #[.bool false, .int .u64 0, .int .u64 0] 26)) 26 #[.bool false, .int .u64 0, .int .u64 0])
  have hz1 : w.heap.size + 1 < w1.heap.size := by rw [← hw1]; simp
  have hx1 := hx.on hb1
  have hcase : n = 0 ∨ (0 < n ∧ ∃ b off v0, A = some ⟨b, off, none⟩ ∧ w1.cell? ⟨b, off, none⟩ = some (.int .u8 (v0 : Nat)) ∧ v0 / 16 ≠ 6 ∧ v0 ≤ 255) := by
    by_cases h0 : n = 0
    · exact .inl h0
    · obtain ⟨b, off, v0, hA, hbl, hv0, hv0l, hc0⟩ := hx1.byte (i := 0) (by omega)
      rw [Nat.add_zero] at hc0
      exact .inr ⟨by omega, b, off, v0, hA, hc0, by rcases hv with h | h; exact absurd h h0; rw [← hv0]; exact h, hv0l⟩
  obtain ⟨fb, hfb⟩ : ∃ fb, decide (K0 = 0 ∧ (0 < frag ∨ mf = true)) = fb := ⟨_, rfl⟩
  replace hx := hide hx
  replace hx1 := hide hx1
  replace hb1 := hide hb1
  replace hgs := hide hgs
  replace hgd := hide hgd
  replace hS := hide hS
  replace hK := hide hK
  replace hfb := hide hfb
  replace hv := hide hv
  rcases hcase with rfl | ⟨h0, b, off, v0, rfl, hc0, hne, hv0l⟩
  case' inr =>
    have t1 : (((v0 : Int) / 16) == 6) = false := by rw [beq_eq_false_iff_ne]; omega
    have t2 : (0 : Int) < (n : Int) := by omega
    replace hne := hide hne
  all_goals
    go_enter Try.func49, Try.ntmps49
    go_wp2_with fail
    clear hw1
    refine (hS.out _ c _ hx1.out hnc hcm).mono ?_
    rintro e w2 ⟨A1, c1, A2, c2, rfl, hr, hm2, hc2, hb2⟩
    obtain ⟨wa, hwa⟩ : ∃ wa, w2.alloc (Four.hdC tos id df mf frag ttl proto false 0 slo false 0 dlo A1 n1 c1) = wa := ⟨_, rfl⟩
    have hba : Below w2.heap.size w2 wa := hwa ▸ (Below.refl _ _).alloc (Nat.le_refl _) _
    have hga := hwa ▸ blk_new w2 51 #[.int .i64 tos, .int .i64 id, .bool df, .bool mf, .int .i64 frag, .int .i64 ttl, .int .i64 proto, .bool false, .int .u64 0, .int .u64 slo, .bool false, .int .u64 0, .int .u64 dlo, .slice A1 n1 c1]
    have hlx : w2.heap.size < wa.heap.size := by rw [← hwa]; simp
    unfold Four.hdC at hwa
    have hb1x := hb2.trans (hba.mono hb2.size)
    have hrx := hr.on hba
    have hcg := blk_cell hga
    have hz2 := hb2.size
    have hzx := hb1x.size
    have hgsx := blk_below hb1x (by omega) hgs.out
    have hgdx := blk_below hb1x hz1 hgd.out
    have hKe : (if fb = true then 21 else K0) = K := by
      rw [← hK.out, ← hfb.out]
      simp only [decide_eq_true_eq]
    clear hr hba hb2
    try clear hc0
    replace hga := hide hga
    replace hrx := hide hrx
    replace hb1x := hide hb1x
    replace hgsx := hide hgsx
    replace hgdx := hide hgdx
    replace hKe := hide hKe
    go_upto_region 7 with fail
    clear hwa
    go_cut [58] (fun sv wx => sv = .bool fb ∧ wa = wx)
    case first =>
      by_cases hK0 : K0 = 0
      · have t3 : ((K0 : Int) == 0) = true := by rw [beq_iff_eq]; omega
        by_cases hf0 : 0 < frag
        · have t4 : (0 : Int) < (frag : Int) := by omega
          have hfe : fb = true := by rw [← hfb.out]; exact decide_eq_true ⟨hK0, .inl hf0⟩
          replace hK0 := hide hK0
          replace hf0 := hide hf0
          replace hfe := hide hfe
          go_wp2_with fail
          go_meet
          exact ⟨by rw [hfe.out], rfl⟩
        · have t4 : ¬ (0 : Int) < (frag : Int) := by omega
          have hfe : mf = fb := by
            rw [← hfb.out]
            rcases mf with _ | _
            · exact (decide_eq_false (fun h => by rcases h.2 with h | h; exact hf0 h; cases h)).symm
            · exact (decide_eq_true ⟨hK0, .inr rfl⟩).symm
          replace hK0 := hide hK0
          replace hf0 := hide hf0
          replace hfe := hide hfe
          go_wp2_with fail
          go_meet
          exact ⟨by rw [hfe.out], rfl⟩
      · have t3 : ((K0 : Int) == 0) = false := by rw [beq_eq_false_iff_ne]; omega
        have hfe : fb = false := by rw [← hfb.out]; exact decide_eq_false (fun h => hK0 h.1)
        replace hK0 := hide hK0
        replace hfe := hide hfe
        go_wp2_with fail
        go_meet
        exact ⟨by rw [hfe.out], rfl⟩
    case rest =>
    obtain ⟨rfl, rfl⟩ := hcut
    clear hcg
    rcases fb with _ | _
    all_goals
      go_upto_region 9 with fail
      refine wp_region_S wa.heap.size (fun k => k = w.heap.size ∨ k = w.heap.size + 1) (by as_aux_lemma => kernel_rfl) ?_
      intro wd hbd
      have hzd := hbd.size
      have hgsd := blk_below hbd (by omega) hgsx.out
      have hgdd := blk_below hbd (by omega) hgdx.out
      have hghd := blk_below hbd hlx hga.out
      have hrd := hrx.out.on hbd
      have hn1 : ¬ (w2.heap.size = w.heap.size ∨ w2.heap.size = w.heap.size + 1) := by omega
      have hcl := fun (l : KeptSW wa.heap.size (fun k => k = w.heap.size ∨ k = w.heap.size + 1) wd) (o : Nat) => blk_cell (l.blk hghd hlx hn1) o
      have hcs := blk_cell hgsd
      have hfs := blk_free hgsd
      obtain ⟨w8, e8, hg8, hgr8⟩ := set3 hgsd (.bool false) (.int .u64 0) (.int .u64 slo)
      have hgd8 := grown_other hgr8 (show w.heap.size + 1 < wd.heap.size by omega) (by omega) hgdd
      have hcd := blk_cell hgd8
      have hfd := blk_free hgd8
      obtain ⟨w9, e9, hg9, hgr9⟩ := set3 hgd8 (.bool false) (.int .u64 0) (.int .u64 dlo)
      have hz8 := hgr8.size
      have hg89 := grown_other hgr9 (show w.heap.size < w8.heap.size by omega) (by omega) hg8
      have hB9 : Below w.heap.size w w9 := hb1.out.trans (((hb1x.out.trans (hbd.mono hzx)).mono (by omega)).trans ((below_grown hgr8 (by omega) (Nat.le_refl _)).trans (below_grown hgr9 (by omega) (by omega))))
      have hk8 : KeptS wa.heap.size (fun k => k = w.heap.size ∨ k = w.heap.size + 1) wd w8 := e8 ▸ keptS_set (keptS_set (keptS_set (keptS_refl _ _ _) (.inl rfl) _) (.inl rfl) _) (.inl rfl) _
      have hk9 : KeptS wa.heap.size (fun k => k = w.heap.size ∨ k = w.heap.size + 1) w8 w9 := e9 ▸ keptS_set (keptS_set (keptS_set (keptS_refl _ _ _) (.inr rfl) _) (.inr rfl) _) (.inr rfl) _
      have hr9 := (isB_addr (isB_addr hrd hgr8 (Nat.le_refl _) hgsd) hgr9 hz8 hgd8).more (Nat.le_trans hz8 hgr9.size)
      clear hgr8 hgr9
      replace hg8 := hide hg8
      replace hg89 := hide hg89
      replace hg9 := hide hg9
      replace hB9 := hide hB9
      replace hgd8 := hide hgd8
      replace hk8 := hide hk8
      replace hk9 := hide hk9
      replace hgsd := hide hgsd
      replace hgdd := hide hgdd
      replace hghd := hide hghd
      replace hrd := hide hrd
      replace hbd := hide hbd
      replace hr9 := hide hr9
      refine wpS_seg wa.heap.size (fun k => k = w.heap.size ∨ k = w.heap.size + 1) 0 8 (fuel := 5) (by as_aux_lemma => kernel_rfl) (fun d _ _ _ _ h => by cases d <;> exact h) (by as_aux_lemma => kernel_rfl) (by as_aux_lemma => kernel_rfl) ?_
      simp only [List.drop_zero, List.take_succ_cons, List.take_zero]
      iterate 8 (refine wpQS_step (fun K hK => ?_); go_simp; refine hK _ ?_; clear hK K)
      refine wpQF_nil ?_
      refine wpF_step 8 rfl (by as_aux_lemma => kernel_rfl) (fun K hK => ?_)
      go_simp
      refine hK _ _ hk8.out ?_
      clear hK K
      refine wpF_step 9 rfl (by as_aux_lemma => kernel_rfl) (fun K hK => ?_)
      go_simp
      refine hK _ _ hk9.out ?_
      clear hK K
      refine wpF_step 10 rfl (by as_aux_lemma => kernel_rfl) (fun K hK => ?_)
      go_simp
      refine hK _ _ (keptS_refl _ _ _) ?_
      clear hK K
      refine wpF_step 11 rfl (by as_aux_lemma => kernel_rfl) (fun K hK => ?_)
      go_simp
      refine hK _ _ (keptS_refl _ _ _) ?_
      clear hK K
      refine wpF_step 12 rfl (by as_aux_lemma => kernel_rfl) (fun K hK => ?_)
      go_simp
      refine hK _ _ (keptS_refl _ _ _) ?_
      clear hK K
      refine wpF_done (by as_aux_lemma => kernel_rfl) ?_ 0
      clear hcl hcs hfs hcd hfd e8 e9
      have q1 := blk_cell hg89.out
      have q2 := blk_cell hg9.out
      go_wp2_with fail
      refine bodyPost_ret (v := .tuple #[addrV false 0 slo, addrV false 0 dlo, .int .i64 proto, .slice A2 m1 c2, .int .i64 (K : Int)]) (by simp [results, Try.results49, go_sem, q1, q2, ← hKe.out]) rfl ⟨A2, c2, rfl, hr9.out, hm2, hc2, hB9.out⟩
end Tun
end Go.Proofs.Ytdmgbngdpjcliaa
