/- The statement TunOpens, walked: what lies in any bytes, or why nothing does. Conditions: slices of bytes that read as lists. -/
import Derived.Test.YtdmgbngdpjcliaaTunAwake
namespace Go.Proofs.Ytdmgbngdpjcliaa
open Go.RowKit Go.ChangeShapes Go.WideShapes Go.ChangeAt Go.Deep
namespace Tun
theorem OpenEnd.form {K : Nat} {b1 : Bool} {sh sl : Int} {b2 : Bool} {dh dl : Int} {m1 : Nat} {rest : List UInt8} {w w' : World} {e : Ending} (h : OpenEnd K b1 sh sl b2 dh dl m1 rest w w' e) :
    ∃ (A3 : Option Addr) (m3 c3 : Nat) (xs3 : List UInt8) (sb : Bool) (sh' sl' : Int) (db : Bool) (dh' dl' : Int), e = .returned (.tuple #[.slice A3 m3 c3, addrV sb sh' sl', addrV db dh' dl', .int .i64 (K : Int)]) ∧ IsB w' w'.heap.size A3 m3 xs3 ∧
      (K ≠ 0 → m3 = 0 ∧ sb = false ∧ sh' = 0 ∧ sl' = 0 ∧ db = false ∧ dh' = 0 ∧ dl' = 0) ∧ (K = 0 → xs3 = rest ∧ sb = b1 ∧ sh' = sh ∧ sl' = sl ∧ db = b2 ∧ dh' = dh ∧ dl' = dl) ∧ Below w.heap.size w w' := by
  obtain ⟨h1, h2, h3⟩ := h
  by_cases hk : K = 0
  · subst hk
    obtain ⟨A2, c2, he, hi, _, _⟩ := h2 rfl
    exact ⟨A2, m1, c2, rest, b1, sh, sl, b2, dh, dl, he, hi, fun h => absurd rfl h, fun _ => ⟨rfl, rfl, rfl, rfl, rfl, rfl, rfl⟩, h3⟩
  · exact ⟨none, 0, 0, [], false, 0, 0, false, 0, 0, h1 hk, IsB.nil _ _ _, fun _ => ⟨rfl, rfl, rfl, rfl, rfl, rfl, rfl⟩, fun h => absurd h hk, h3⟩
/-- What the law parses of the bytes. -/
def LawIs (fb : Bool) (n : Nat) (xs : List UInt8) (K1 : Nat) (b1 : Bool) (sh sl : Int) (b2 : Bool) (dh dl : Int) (proto m1 : Nat) (rest : List UInt8) : Prop :=
  if fb = true then ∃ (K0 : Nat) (cl la ho : Int) (acc : List (Int × List UInt8)), SixIs n xs K0 cl la ho b1 sh sl b2 dh dl acc proto m1 rest ∧ (if K0 = 0 ∧ 0 < Six.fragP acc then 21 else K0) = K1
  else ∃ (K0 tos id : Nat) (df mf : Bool) (frag ttl slo dlo n1 : Nat), b1 = false ∧ sh = 0 ∧ sl = (slo : Int) ∧ b2 = false ∧ dh = 0 ∧ dl = (dlo : Int) ∧ FourIs n xs K0 tos id df mf frag ttl proto slo dlo n1 m1 rest ∧ (if K0 = 0 ∧ (0 < frag ∨ mf = true) then 21 else K0) = K1
/-- How things stand behind the law's parsing. -/
def Parsed (wb : World) (K1 : Nat) (b1 : Bool) (sh sl : Int) (b2 : Bool) (dh dl : Int) (proto m1 : Nat) (rest : List UInt8) (rv pv wv : Value) (wx : World) : Prop :=
  ∃ (A2 : Option Addr) (c2 : Nat), rv = .slice A2 m1 c2 ∧ pv = .int .i64 (proto : Int) ∧ wv = .int .i64 (K1 : Int) ∧ IsB wx wx.heap.size A2 m1 rest ∧ m1 ≤ c2 ∧ c2 ≤ maxLen ∧
    wx.heap[wb.heap.size]? = some (.cells #[.bool b1, .int .u64 sh, .int .u64 sl] 26 (0, 0)) ∧ wx.heap[wb.heap.size + 1]? = some (.cells #[.bool b2, .int .u64 dh, .int .u64 dl] 26 (0, 0)) ∧ wb.heap.size + 1 < wx.heap.size ∧ Below wb.heap.size wb wx
set_option maxRecDepth 20000 in
set_option maxHeartbeats 16000000 in
theorem opens_aux (A : Option Addr) (n0 n c : Nat) (xs : List UInt8) (w : World) (hx : IsB w w.heap.size A n xs) (hn : min n0 500 = n) (hnc : n0 ≤ c) (hcm : c ≤ maxLen)
    (fb : Bool) (hfb : decide (0 < n ∧ (xs.getD 0 0).toNat / 16 = 6) = fb) (K1 : Nat) (b1 : Bool) (sh sl : Int) (b2 : Bool) (dh dl : Int) (proto m1 : Nat) (rest : List UInt8)
    (hO : OutIs n xs K1 b1 sh sl b2 dh dl proto m1 rest) (hlaw : LawIs fb n xs K1 b1 sh sl b2 dh dl proto m1 rest) (hm1 : m1 ≤ 1099511627776) :
    Calls Try.prog 5 #[.slice A n0 c] w fun e w' => e = .returned (.bool true) ∧ Below w.heap.size w w' := by
  have hn5 : n ≤ 500 := by omega
  have hn0 : n0 ≤ maxLen := by omega
  have hnc1 : n ≤ c := by omega
  obtain ⟨K, hK⟩ : ∃ K, openK K1 proto m1 rest = K := ⟨_, rfl⟩
  have hcase : (fb = true ∧ 0 < n ∧ ∃ b off v0, A = some ⟨b, off, none⟩ ∧ b < w.heap.size ∧ w.cell? ⟨b, off, none⟩ = some (.int .u8 (v0 : Nat)) ∧ v0 / 16 = 6 ∧ v0 ≤ 255) ∨ (fb = false ∧ n = 0) ∨ (fb = false ∧ 0 < n ∧ ∃ b off v0, A = some ⟨b, off, none⟩ ∧ b < w.heap.size ∧ w.cell? ⟨b, off, none⟩ = some (.int .u8 (v0 : Nat)) ∧ v0 / 16 ≠ 6 ∧ v0 ≤ 255) := by
    by_cases h0 : n = 0
    · exact .inr (.inl ⟨by rw [← hfb]; exact decide_eq_false (by omega), h0⟩)
    · obtain ⟨b, off, v0, hA, hbl, hv0, hv0l, hc0⟩ := hx.byte (i := 0) (by omega)
      rw [Nat.add_zero] at hc0
      rw [hv0] at hfb
      by_cases hv : v0 / 16 = 6
      · exact .inl ⟨by rw [← hfb]; exact decide_eq_true ⟨by omega, hv⟩, by omega, b, off, v0, hA, hbl, hc0, hv, hv0l⟩
      · exact .inr (.inr ⟨by rw [← hfb]; exact decide_eq_false (fun h => hv h.2), by omega, b, off, v0, hA, hbl, hc0, hv, hv0l⟩)
  replace hx := hide hx
  replace hn := hide hn
  replace hfb := hide hfb
  replace hO := hide hO
  replace hlaw := hide hlaw
  replace hK := hide hK
  replace hcase := hide hcase
  go_enter Try.func5, Try.ntmps5
  go_wp2_with fail
  refine (pcut_as A n0 c n _ hn0 hnc hn.out).mono ?_
  rintro e w' ⟨rfl, rfl⟩
  go_wp2_with fail
  refine (open_any n xs K1 b1 sh sl b2 dh dl proto m1 rest hO.out K hK.out A c _ hx.out hnc1 hcm).mono ?_
  rintro e w2 he
  obtain ⟨A3, m3, c3, xs3, sb, sh', sl', db, dh', dl', rfl, hi3, hbad, hgood, hb2⟩ := he.form
  obtain ⟨wb, hwb⟩ : ∃ wb, (w2.alloc (.cells #[.bool sb, .int .u64 sh', .int .u64 sl'] 26)).alloc (.cells #[.bool db, .int .u64 dh', .int .u64 dl'] 26) = wb := ⟨_, rfl⟩
  have hbb : Below w2.heap.size w2 wb := hwb ▸ ((Below.refl _ _).alloc (Nat.le_refl _) _).alloc (by simp) _
  have hg4 : wb.heap[w2.heap.size]? = some (.cells #[.bool sb, .int .u64 sh', .int .u64 sl'] 26 (0, 0)) := hwb ▸ blk_old _ (by simp) (blk_new _ _ _)
  have hg5 : wb.heap[w2.heap.size + 1]? = some (.cells #[.bool db, .int .u64 dh', .int .u64 dl'] 26 (0, 0)) := hwb ▸ (by simpa using blk_new (w2.alloc (.cells #[.bool sb, .int .u64 sh', .int .u64 sl'] 26)) 26 #[.bool db, .int .u64 dh', .int .u64 dl'])
  have hzb : w2.heap.size + 1 < wb.heap.size := by rw [← hwb]; simp
  have hib := hi3.on hbb
  have hBb := hb2.trans (hbb.mono hb2.size)
  have hxb := hx.out.on hBb
  clear he hi3 hb2 hbb
  replace hg4 := hide hg4
  replace hg5 := hide hg5
  replace hib := hide hib
  replace hBb := hide hBb
  replace hxb := hide hxb
  replace hbad := hide hbad
  replace hgood := hide hgood
  go_upto_region 6 with fail
  clear hwb
  have hbz : Below wb.heap.size wb ((wb.alloc (.cells #[.bool false, .int .u64 0, .int .u64 0] 26)).alloc (.cells #[.bool false, .int .u64 0, .int .u64 0] 26)) := ((Below.refl _ _).alloc (Nat.le_refl _) _).alloc (by simp) _
  have hgz0 : ((wb.alloc (.cells #[.bool false, .int .u64 0, .int .u64 0] 26)).alloc (.cells #[.bool false, .int .u64 0, .int .u64 0] 26)).heap[wb.heap.size]? = some (.cells #[.bool false, .int .u64 0, .int .u64 0] 26 (0, 0)) := blk_old _ (by simp) (blk_new _ _ _)
  have hgz1 : ((wb.alloc (.cells #[.bool false, .int .u64 0, .int .u64 0] 26)).alloc (.cells #[.bool false, .int .u64 0, .int .u64 0] 26)).heap[wb.heap.size + 1]? = some (.cells #[.bool false, .int .u64 0, .int .u64 0] 26 (0, 0)) := by simpa using blk_new (wb.alloc (.cells #[.bool false, .int .u64 0, .int .u64 0] 26)) 26 #[.bool false, .int .u64 0, .int .u64 0]
  have hzz : wb.heap.size + 1 < ((wb.alloc (.cells #[.bool false, .int .u64 0, .int .u64 0] 26)).alloc (.cells #[.bool false, .int .u64 0, .int .u64 0] 26)).heap.size := by simp
  replace hbz := hide hbz
  replace hgz0 := hide hgz0
  replace hgz1 := hide hgz1
  replace hzz := hide hzz
  go_upto_region 7 with fail
  go_cut [38] (fun sv wx => ∃ wc, sv = .bool fb ∧ Below wb.heap.size wb wc ∧ wc.heap[wb.heap.size]? = some (.cells #[.bool false, .int .u64 0, .int .u64 0] 26 (0, 0)) ∧ wc.heap[wb.heap.size + 1]? = some (.cells #[.bool false, .int .u64 0, .int .u64 0] 26 (0, 0)) ∧ wb.heap.size + 1 < wc.heap.size ∧ wc = wx)
  case first =>
    rcases hcase.out with ⟨rfl, h0, b, off, v0, rfl, hbl, hc0, hv, hv0l⟩ | ⟨rfl, rfl⟩ | ⟨rfl, h0, b, off, v0, rfl, hbl, hc0, hv, hv0l⟩
    · have t1 : (((v0 : Int) / 16) == 6) = true := by rw [beq_iff_eq]; omega
      have t2 : (0 : Int) < (n : Int) := by omega
      have hcz := ((hBb.out.trans (hbz.out.mono hBb.out.size)).cell (p := ⟨b, off, none⟩) hbl).trans hc0
      clear hc0
      replace hv := hide hv
      go_wp2_with fail
      go_meet
      exact ⟨_, rfl, hbz.out, hgz0.out, hgz1.out, hzz.out, rfl⟩
    · go_wp2_with fail
      go_meet
      exact ⟨_, rfl, hbz.out, hgz0.out, hgz1.out, hzz.out, rfl⟩
    · have t1 : (((v0 : Int) / 16) == 6) = false := by rw [beq_eq_false_iff_ne]; omega
      have t2 : (0 : Int) < (n : Int) := by omega
      have hcz := ((hBb.out.trans (hbz.out.mono hBb.out.size)).cell (p := ⟨b, off, none⟩) hbl).trans hc0
      clear hc0
      replace hv := hide hv
      go_wp2_with fail
      go_meet
      exact ⟨_, rfl, hbz.out, hgz0.out, hgz1.out, hzz.out, rfl⟩
  case rest =>
  obtain ⟨wc, rfl, hbc, hg10, hg11, hzc, rfl⟩ := hcut
  clear hbz hgz0 hgz1 hzz
  have hxc := hxb.out.on hbc
  replace hbc := hide hbc
  replace hg10 := hide hg10
  replace hg11 := hide hg11
  replace hxc := hide hxc
  go_upto_if 38 with fail
  go_cut [7, 8, 9] (fun rv pv wv wx => ∃ wd, Parsed wb K1 b1 sh sl b2 dh dl proto m1 rest rv pv wv wd ∧ wd = wx)
  case first =>
    rcases fb with _ | _
    · have hl := hlaw.out
      unfold LawIs at hl
      rw [if_neg (by simp)] at hl
      obtain ⟨K0, tos, id, df, mf, frag, ttl, slo, dlo, n1, rfl, rfl, rfl, rfl, rfl, rfl, hS, hK1⟩ := hl
      obtain ⟨f6, hf6⟩ : ∃ f6, decide (K0 = 0 ∧ (0 < frag ∨ mf = true)) = f6 := ⟨_, rfl⟩
      have hKe : (if f6 = true then 21 else K0) = K1 := by
        rw [← hK1, ← hf6]
        simp only [decide_eq_true_eq]
      clear hK1
      replace hS := hide hS
      replace hf6 := hide hf6
      replace hKe := hide hKe
      go_wp2_with fail
      refine (hS.out A c _ hxc.out hnc1 hcm).mono ?_
      rintro e wp ⟨A1, c1, A2, c2, rfl, hr, hm2, hc2, hbp⟩
      obtain ⟨wx, hwa⟩ : ∃ wa, wp.alloc (Four.hdC tos id df mf frag ttl proto false 0 slo false 0 dlo A1 n1 c1) = wa := ⟨_, rfl⟩
      have hba : Below wp.heap.size wp wx := hwa ▸ (Below.refl _ _).alloc (Nat.le_refl _) _
      have hgx := hwa ▸ blk_new wp 51 #[.int .i64 tos, .int .i64 id, .bool df, .bool mf, .int .i64 frag, .int .i64 ttl, .int .i64 proto, .bool false, .int .u64 0, .int .u64 slo, .bool false, .int .u64 0, .int .u64 dlo, .slice A1 n1 c1]
      have hlx : wp.heap.size < wx.heap.size := by rw [← hwa]; simp
      unfold Four.hdC at hwa
      have hcx := hbp.trans (hba.mono hbp.size)
      have hrx := hr.on hba
      have hcg := blk_cell hgx
      have hzp := hbp.size
      have hzx := hcx.size
      have hbx := hbc.out.trans (hcx.mono (by omega))
      have hgsx := blk_below hcx (by omega) hg10.out
      have hgdx := blk_below hcx hzc hg11.out
      clear hr hba hbp hcx
      replace hgx := hide hgx
      replace hrx := hide hrx
      replace hbx := hide hbx
      replace hgsx := hide hgsx
      replace hgdx := hide hgdx
      go_upto_region 17 with fail
      clear hwa
      go_cut [77] (fun sv w4 => sv = .bool f6 ∧ wx = w4)
      case first =>
        by_cases hK0 : K0 = 0
        · have t3 : ((K0 : Int) == 0) = true := by rw [beq_iff_eq]; omega
          by_cases hf0 : 0 < frag
          · have t4 : (0 : Int) < (frag : Int) := by omega
            have hfe : f6 = true := by rw [← hf6.out]; exact decide_eq_true ⟨hK0, .inl hf0⟩
            replace hK0 := hide hK0
            replace hf0 := hide hf0
            replace hfe := hide hfe
            go_wp2_with fail
            go_meet
            exact ⟨by rw [hfe.out], rfl⟩
          · have t4 : ¬ (0 : Int) < (frag : Int) := by omega
            have hfe : mf = f6 := by
              rw [← hf6.out]
              rcases mf with _ | _
              · exact (decide_eq_false (fun h => by rcases h.2 with h | h; exact hf0 h; cases h)).symm
              · exact (decide_eq_true ⟨hK0, .inr rfl⟩).symm
            replace hK0 := hide hK0
            replace hf0 := hide hf0
            replace hfe := hide hfe
            go_wp2_with fail
            go_meet
            exact ⟨by rw [hfe.out], rfl⟩
        · have t3 : ((K0 : Int) == 0) = false := by rw [beq_eq_false_iff_ne]; omega
          have hfe : f6 = false := by rw [← hf6.out]; exact decide_eq_false (fun h => hK0 h.1)
          replace hK0 := hide hK0
          replace hfe := hide hfe
          go_wp2_with fail
          go_meet
          exact ⟨by rw [hfe.out], rfl⟩
      case rest =>
      obtain ⟨rfl, rfl⟩ := hcut
      rcases f6 with _ | _
      all_goals
        go_upto_region 21 with fail
        clear hcg
        refine wp_region_S wx.heap.size (fun k => k = wb.heap.size ∨ k = wb.heap.size + 1) (by as_aux_lemma => kernel_rfl) ?_
        intro wd hbd
        have hzd := hbd.size
        have hgsd := blk_below hbd (by omega) hgsx.out
        have hgdd := blk_below hbd (by omega) hgdx.out
        have hghd := blk_below hbd hlx hgx.out
        have hrd := hrx.out.on hbd
        have hn1 : ¬ (wp.heap.size = wb.heap.size ∨ wp.heap.size = wb.heap.size + 1) := by omega
        have hcl := fun (l : KeptSW wx.heap.size (fun k => k = wb.heap.size ∨ k = wb.heap.size + 1) wd) (o : Nat) => blk_cell (l.blk hghd hlx hn1) o
        have hcs := blk_cell hgsd
        have hfs := blk_free hgsd
        obtain ⟨w8, e8, hg8, hgr8⟩ := set3 hgsd (.bool false) (.int .u64 0) (.int .u64 slo)
        have hgd8 := grown_other hgr8 (show wb.heap.size + 1 < wd.heap.size by omega) (by omega) hgdd
        have hcd := blk_cell hgd8
        have hfd := blk_free hgd8
        obtain ⟨w9, e9, hg9, hgr9⟩ := set3 hgd8 (.bool false) (.int .u64 0) (.int .u64 dlo)
        have hz8 := hgr8.size
        have hz9 := hgr9.size
        have hg89 := grown_other hgr9 (show wb.heap.size < w8.heap.size by omega) (by omega) hg8
        have hB9 : Below wb.heap.size wb w9 := (hbx.out.trans (hbd.mono (by omega))).trans ((below_grown hgr8 (by omega) (Nat.le_refl _)).trans (below_grown hgr9 (by omega) (by omega)))
        have hk8 : KeptS wx.heap.size (fun k => k = wb.heap.size ∨ k = wb.heap.size + 1) wd w8 := e8 ▸ keptS_set (keptS_set (keptS_set (keptS_refl _ _ _) (.inl rfl) _) (.inl rfl) _) (.inl rfl) _
        have hk9 : KeptS wx.heap.size (fun k => k = wb.heap.size ∨ k = wb.heap.size + 1) w8 w9 := e9 ▸ keptS_set (keptS_set (keptS_set (keptS_refl _ _ _) (.inr rfl) _) (.inr rfl) _) (.inr rfl) _
        have hr9 := (isB_addr (isB_addr hrd hgr8 (Nat.le_refl _) hgsd) hgr9 hz8 hgd8).more (Nat.le_trans hz8 hgr9.size)
        have hzf : wb.heap.size + 1 < w9.heap.size := by omega
        clear hgr8 hgr9
        replace hg8 := hide hg8
        replace hg89 := hide hg89
        replace hg9 := hide hg9
        replace hB9 := hide hB9
        replace hgd8 := hide hgd8
        replace hk8 := hide hk8
        replace hk9 := hide hk9
        replace hgsd := hide hgsd
        replace hgdd := hide hgdd
        replace hghd := hide hghd
        replace hrd := hide hrd
        replace hbd := hide hbd
        replace hr9 := hide hr9
        refine wpS_seg wx.heap.size (fun k => k = wb.heap.size ∨ k = wb.heap.size + 1) 0 4 (fuel := 2) (by as_aux_lemma => kernel_rfl) (fun d _ _ _ _ h => by cases d <;> exact h) (by as_aux_lemma => kernel_rfl) (by as_aux_lemma => kernel_rfl) ?_
        simp only [List.drop_zero, List.take_succ_cons, List.take_zero]
        iterate 4 (refine wpQS_step (fun K hK => ?_); go_simp; refine hK _ ?_; clear hK K)
        refine wpQF_nil ?_
        refine wpF_step 4 rfl (by as_aux_lemma => kernel_rfl) (fun K hK => ?_)
        go_simp
        refine hK _ _ hk8.out ?_
        clear hK K
        refine wpF_step 5 rfl (by as_aux_lemma => kernel_rfl) (fun K hK => ?_)
        go_simp
        refine hK _ _ hk9.out ?_
        clear hK K
        refine wpF_done (by as_aux_lemma => kernel_rfl) ?_ 0
        clear hcl hcs hfs hcd hfd e8 e9
        go_wp2_with fail
        go_meet
        exact ⟨_, ⟨A2, c2, rfl, rfl, by rw [← hKe.out]; rfl, hr9.out, hm2, hc2, hg89.out, hg9.out, hzf, hB9.out⟩, rfl⟩
    · have hl := hlaw.out
      unfold LawIs at hl
      rw [if_pos rfl] at hl
      obtain ⟨K0, cl, la, ho, acc, hS, hK1⟩ := hl
      obtain ⟨f6, hf6⟩ : ∃ f6, decide (K0 = 0 ∧ 0 < Six.fragP acc) = f6 := ⟨_, rfl⟩
      have hKe : (if f6 = true then 21 else K0) = K1 := by
        rw [← hK1, ← hf6]
        simp only [decide_eq_true_eq]
      clear hK1
      replace hS := hide hS
      replace hf6 := hide hf6
      replace hKe := hide hKe
      go_wp2_with fail
      refine (hS.out A c _ hxc.out hnc1 hcm).mono ?_
      rintro e wp ⟨X, m, xc, A2, c2, es, rfl, hpe, hX, hmx, hxm, hr, hm2, hc2, hbp⟩
      obtain ⟨wa, hwa⟩ : ∃ wa, wp.alloc (Six.hdC cl la ho b1 sh sl b2 dh dl X m xc proto) = wa := ⟨_, rfl⟩
      have hba : Below wp.heap.size wp wa := hwa ▸ (Below.refl _ _).alloc (Nat.le_refl _) _
      have hga := hwa ▸ blk_new wp 29 #[.int .i64 cl, .int .i64 la, .int .i64 ho, .bool b1, .int .u64 sh, .int .u64 sl, .bool b2, .int .u64 dh, .int .u64 dl, .slice X m xc, .int .i64 proto]
      have hla : wp.heap.size < wa.heap.size := by rw [← hwa]; simp
      unfold Six.hdC at hwa
      have hca := hbp.trans (hba.mono hbp.size)
      have hXa := hX.on hba
      have hra := hr.on hba
      have hcg := blk_cell hga
      have hzp := hbp.size
      have hmL : m ≤ maxLen := by omega
      clear hX hr hba hbp
      replace hga := hide hga
      replace hXa := hide hXa
      replace hra := hide hra
      replace hca := hide hca
      replace hpe := hide hpe
      go_upto_region 10 with fail
      clear hwa
      go_cut [52] (fun sv wx => ∃ w4, sv = .bool f6 ∧ Below wa.heap.size wa w4 ∧ w4 = wx)
      case first =>
        by_cases hK0 : K0 = 0
        · have t3 : ((K0 : Int) == 0) = true := by rw [beq_iff_eq]; omega
          obtain ⟨f, hf⟩ : ∃ f, beN (Six.partB es) 1 2 / 8 = f := ⟨_, rfl⟩
          have hfe : decide (0 < f) = f6 := by
            rw [← hf6.out, ← hf, Six.pes_frag, hpe.out]
            exact decide_eq_decide.2 ⟨fun h => ⟨hK0, h⟩, fun h => h.2⟩
          replace hf := hide hf
          replace hK0 := hide hK0
          replace hfe := hide hfe
          go_wp2_with fail
          refine (Six.frag_any cl la ho b1 sh sl b2 dh dl X m xc proto es _ hXa.out hmL).mono ?_
          rintro e w3 ⟨rfl, hb3⟩
          rw [hf.out]
          replace hb3 := hide hb3
          go_wp2_with fail
          go_meet
          exact ⟨_, by rw [hfe.out], hb3.out, rfl⟩
        · have t3 : ((K0 : Int) == 0) = false := by rw [beq_eq_false_iff_ne]; omega
          have hfe : f6 = false := by rw [← hf6.out]; exact decide_eq_false (fun h => hK0 h.1)
          replace hK0 := hide hK0
          go_wp2_with fail
          go_meet
          exact ⟨_, by rw [hfe], Below.refl _ _, rfl⟩
      case rest =>
      obtain ⟨wx, rfl, hbx', rfl⟩ := hcut
      have hgx := blk_below hbx' hla hga.out
      have hlx := Nat.lt_of_lt_of_le hla hbx'.size
      have hrx := hra.out.on hbx'
      have hcx := hca.out.trans (hbx'.mono (by have := hca.out.size; omega))
      have hbx := hbc.out.trans (hcx.mono (by omega))
      have hgsx := blk_below hcx (by omega) hg10.out
      have hgdx := blk_below hcx hzc hg11.out
      have hzx := hcx.size
      have hqx := blk_cell hgx
      clear hcg hbx' hcx
      replace hgx := hide hgx
      replace hrx := hide hrx
      replace hbx := hide hbx
      replace hgsx := hide hgsx
      replace hgdx := hide hgdx
      rcases f6 with _ | _
      all_goals
        go_upto_region 14 with fail
        clear hqx
        refine wp_region_S wx.heap.size (fun k => k = wb.heap.size ∨ k = wb.heap.size + 1) (by as_aux_lemma => kernel_rfl) ?_
        intro wd hbd
        have hzd := hbd.size
        have hgsd := blk_below hbd (by omega) hgsx.out
        have hgdd := blk_below hbd (by omega) hgdx.out
        have hghd := blk_below hbd hlx hgx.out
        have hrd := hrx.out.on hbd
        have hn1 : ¬ (wp.heap.size = wb.heap.size ∨ wp.heap.size = wb.heap.size + 1) := by omega
        have hcl := fun (l : KeptSW wx.heap.size (fun k => k = wb.heap.size ∨ k = wb.heap.size + 1) wd) (o : Nat) => blk_cell (l.blk hghd hlx hn1) o
        have hcs := blk_cell hgsd
        have hfs := blk_free hgsd
        obtain ⟨w8, e8, hg8, hgr8⟩ := set3 hgsd (.bool b1) (.int .u64 sh) (.int .u64 sl)
        have hgd8 := grown_other hgr8 (show wb.heap.size + 1 < wd.heap.size by omega) (by omega) hgdd
        have hcd := blk_cell hgd8
        have hfd := blk_free hgd8
        obtain ⟨w9, e9, hg9, hgr9⟩ := set3 hgd8 (.bool b2) (.int .u64 dh) (.int .u64 dl)
        have hz8 := hgr8.size
        have hz9 := hgr9.size
        have hg89 := grown_other hgr9 (show wb.heap.size < w8.heap.size by omega) (by omega) hg8
        have hB9 : Below wb.heap.size wb w9 := (hbx.out.trans (hbd.mono (by omega))).trans ((below_grown hgr8 (by omega) (Nat.le_refl _)).trans (below_grown hgr9 (by omega) (by omega)))
        have hk8 : KeptS wx.heap.size (fun k => k = wb.heap.size ∨ k = wb.heap.size + 1) wd w8 := e8 ▸ keptS_set (keptS_set (keptS_set (keptS_refl _ _ _) (.inl rfl) _) (.inl rfl) _) (.inl rfl) _
        have hk9 : KeptS wx.heap.size (fun k => k = wb.heap.size ∨ k = wb.heap.size + 1) w8 w9 := e9 ▸ keptS_set (keptS_set (keptS_set (keptS_refl _ _ _) (.inr rfl) _) (.inr rfl) _) (.inr rfl) _
        have hr9 := (isB_addr (isB_addr hrd hgr8 (Nat.le_refl _) hgsd) hgr9 hz8 hgd8).more (Nat.le_trans hz8 hgr9.size)
        have hzf : wb.heap.size + 1 < w9.heap.size := by omega
        clear hgr8 hgr9
        replace hg8 := hide hg8
        replace hg89 := hide hg89
        replace hg9 := hide hg9
        replace hB9 := hide hB9
        replace hgd8 := hide hgd8
        replace hk8 := hide hk8
        replace hk9 := hide hk9
        replace hgsd := hide hgsd
        replace hgdd := hide hgdd
        replace hghd := hide hghd
        replace hrd := hide hrd
        replace hbd := hide hbd
        replace hr9 := hide hr9
        refine wpS_seg wx.heap.size (fun k => k = wb.heap.size ∨ k = wb.heap.size + 1) 0 4 (fuel := 2) (by as_aux_lemma => kernel_rfl) (fun d _ _ _ _ h => by cases d <;> exact h) (by as_aux_lemma => kernel_rfl) (by as_aux_lemma => kernel_rfl) ?_
        simp only [List.drop_zero, List.take_succ_cons, List.take_zero]
        iterate 4 (refine wpQS_step (fun K hK => ?_); go_simp; refine hK _ ?_; clear hK K)
        refine wpQF_nil ?_
        refine wpF_step 4 rfl (by as_aux_lemma => kernel_rfl) (fun K hK => ?_)
        go_simp
        refine hK _ _ hk8.out ?_
        clear hK K
        refine wpF_step 5 rfl (by as_aux_lemma => kernel_rfl) (fun K hK => ?_)
        go_simp
        refine hK _ _ hk9.out ?_
        clear hK K
        refine wpF_done (by as_aux_lemma => kernel_rfl) ?_ 0
        clear hcl hcs hfs hcd hfd e8 e9
        go_wp2_with fail
        go_meet
        exact ⟨_, ⟨A2, c2, rfl, rfl, by rw [← hKe.out]; rfl, hr9.out, hm2, hc2, hg89.out, hg9.out, hzf, hB9.out⟩, rfl⟩
  case rest =>
  obtain ⟨wd, ⟨A2, c2, rfl, rfl, rfl, hrd, hm2, hc2, hg10d, hg11d, hzd, hbd⟩, rfl⟩ := hcut
  have hBd := hBb.out.trans (hbd.mono hBb.out.size)
  have hg4d := blk_below hbd (by omega) hg4.out
  have hg5d := blk_below hbd hzb hg5.out
  have hid := hib.out.on hbd
  have q4 := blk_cell hg4d
  have q5 := blk_cell hg5d
  clear hbc hg10 hg11 hxc hbd
  replace hrd := hide hrd
  replace hg10d := hide hg10d
  replace hg11d := hide hg11d
  replace hBd := hide hBd
  replace hg4d := hide hg4d
  replace hg5d := hide hg5d
  replace hid := hide hid
  have hKv := hK.out
  unfold openK at hKv
  by_cases hK1 : K1 ≠ 0
  · rw [if_pos hK1] at hKv
    subst hKv
    have hKn : K1 ≠ 0 := hK1
    have t1 : ((K1 : Int) == 0) = false := by rw [beq_eq_false_iff_ne]; omega
    have t2 : ((K1 : Int) != 0) = true := by rw [bne_iff_ne]; omega
    replace hK1 := hide hK1
    obtain ⟨rfl, rfl, rfl, rfl, rfl, rfl, rfl⟩ := hbad.out hKn
    go_wp2_with fail
    refine (awake_any _).mono ?_
    rintro e w5 ⟨rfl, hb5⟩
    have hB5 := hBd.out.trans (hb5.mono hBd.out.size)
    clear hb5
    replace hB5 := hide hB5
    go_wp2_with fail
    go_ret
    exact ⟨rfl, hB5.out⟩
  rw [if_neg hK1] at hKv
  have t1 : ((K1 : Int) == 0) = true := by rw [beq_iff_eq]; omega
  have t2 : ((K1 : Int) != 0) = false := by rw [bne_eq_false_iff_eq]; omega
  replace hK1 := hide hK1
  by_cases hpr : proto ≠ 4 ∧ proto ≠ 41
  · rw [if_pos hpr] at hKv
    have hKn : K ≠ 0 := by omega
    have tk : ((K : Int) == 14) = true := by rw [beq_iff_eq]; omega
    have t3 : ((proto : Int) != 4) = true := by rw [bne_iff_ne]; omega
    have t4 : ((proto : Int) != 41) = true := by rw [bne_iff_ne]; omega
    replace hpr := hide hpr
    replace hKv := hide hKv
    obtain ⟨rfl, rfl, rfl, rfl, rfl, rfl, rfl⟩ := hbad.out hKn
    go_wp2_with fail
    refine (awake_any _).mono ?_
    rintro e w5 ⟨rfl, hb5⟩
    have hB5 := hBd.out.trans (hb5.mono hBd.out.size)
    clear hb5
    replace hB5 := hide hB5
    go_wp2_with fail
    go_ret
    exact ⟨rfl, hB5.out⟩
  rw [if_neg hpr] at hKv
  have hz : (((proto : Int) != 4) = false ∧ ((proto : Int) == 4) = true ∧ proto = 4) ∨ (((proto : Int) != 4) = true ∧ ((proto : Int) != 41) = false ∧ ((proto : Int) == 4) = false ∧ proto = 41) := by
    by_cases h : proto = 4
    · exact .inl ⟨by rw [bne_eq_false_iff_eq]; omega, by rw [beq_iff_eq]; omega, h⟩
    · exact .inr ⟨by rw [bne_iff_ne]; omega, by rw [bne_eq_false_iff_eq]; omega, by rw [beq_eq_false_iff_ne]; omega, by omega⟩
  clear hpr
  by_cases hm0 : m1 = 0
  · have hik : innerK m1 rest = 2 := by unfold innerK; rw [if_pos hm0]
    rw [hik, if_pos (by omega)] at hKv
    have hKn : K ≠ 0 := by omega
    have tk : ((K : Int) == 2) = true := by rw [beq_iff_eq]; omega
    have t3 : ((m1 : Int) == 0) = true := by rw [beq_iff_eq]; omega
    replace hik := hide hik
    replace hKv := hide hKv
    replace hm0 := hide hm0
    rcases hz with ⟨t4, t5, hpe⟩ | ⟨t4, t5, t6, hpe⟩
    all_goals
      replace hpe := hide hpe
      obtain ⟨rfl, rfl, rfl, rfl, rfl, rfl, rfl⟩ := hbad.out hKn
      go_wp2_with fail
      refine (awake_any _).mono ?_
      rintro e w5 ⟨rfl, hb5⟩
      have hB5 := hBd.out.trans (hb5.mono hBd.out.size)
      clear hb5
      replace hB5 := hide hB5
      go_wp2_with fail
      go_ret
      exact ⟨rfl, hB5.out⟩
  obtain ⟨b, off, v0, rfl, hbl, hv0, hv0l, hc0⟩ := hrd.out.byte (i := 0) (by omega)
  rw [Nat.add_zero] at hc0
  have t3 : ((m1 : Int) == 0) = false := by rw [beq_eq_false_iff_ne]; omega
  have t30 : (0 : Int) < (m1 : Int) := by omega
  unfold innerK innerP at hKv
  rw [if_neg hm0, hv0] at hKv
  replace hm0 := hide hm0
  replace hv0 := hide hv0
  by_cases hvb : ¬ (v0 / 16 = 4 ∨ v0 / 16 = 6)
  · rw [if_neg hvb, if_pos (by omega)] at hKv
    have hKn : K ≠ 0 := by omega
    have tk : ((K : Int) == 10) = true := by rw [beq_iff_eq]; omega
    have t4 : (((v0 : Int) / 16) != 4) = true := by rw [bne_iff_ne]; omega
    have t5 : (((v0 : Int) / 16) != 6) = true := by rw [bne_iff_ne]; omega
    replace hvb := hide hvb
    replace hKv := hide hKv
    rcases hz with ⟨t6, t7, hpe⟩ | ⟨t6, t7, t8, hpe⟩
    all_goals
      replace hpe := hide hpe
      obtain ⟨rfl, rfl, rfl, rfl, rfl, rfl, rfl⟩ := hbad.out hKn
      go_wp2_with fail
      refine (awake_any _).mono ?_
      rintro e w5 ⟨rfl, hb5⟩
      have hB5 := hBd.out.trans (hb5.mono hBd.out.size)
      clear hb5
      replace hB5 := hide hB5
      go_wp2_with fail
      go_ret
      exact ⟨rfl, hB5.out⟩
  have hvc : v0 / 16 = 4 ∨ v0 / 16 = 6 := Classical.byContradiction hvb
  rw [if_pos hvc, if_neg (by omega)] at hKv
  clear hvb
  have hy : ((((v0 : Int) / 16) != 4) = false ∧ (((v0 : Int) / 16) == 4) = true ∧ v0 / 16 = 4) ∨ ((((v0 : Int) / 16) != 4) = true ∧ (((v0 : Int) / 16) != 6) = false ∧ (((v0 : Int) / 16) == 4) = false ∧ v0 / 16 = 6) := by
    rcases hvc with h | h
    · exact .inl ⟨by rw [bne_eq_false_iff_eq]; omega, by rw [beq_iff_eq]; omega, h⟩
    · exact .inr ⟨by rw [bne_iff_ne]; omega, by rw [bne_eq_false_iff_eq]; omega, by rw [beq_eq_false_iff_ne]; omega, h⟩
  clear hvc
  have hs1 := hid.out.str c3
  have hs2 := hrd.out.str c2
  have hq10 := blk_cell hg10d.out
  have hq11 := blk_cell hg11d.out
  rcases hy with ⟨y1, y2, hye⟩ | ⟨y1, y2, y3, hye⟩ <;> rcases hz with ⟨z1, z2, hze⟩ | ⟨z1, z2, z3, hze⟩
  case' inl.inl => have hKz : K = 0 := by rw [← hKv, if_pos hye, if_neg (by omega)]
  case' inr.inr => have hKz : K = 0 := by rw [← hKv, (by rw [if_neg (by omega), if_pos hye] : (if v0 / 16 = 4 then 4 else if v0 / 16 = 6 then 41 else 0) = 41), if_neg (by omega)]
  case' inl.inr => have hKz : K = 14 := by rw [← hKv, if_pos hye, if_pos (by omega)]
  case' inr.inl => have hKz : K = 14 := by rw [← hKv, (by rw [if_neg (by omega), if_pos hye] : (if v0 / 16 = 4 then 4 else if v0 / 16 = 6 then 41 else 0) = 41), if_pos (by omega)]
  all_goals replace hye := hide hye
  all_goals replace hze := hide hze
  all_goals replace hKv := hide hKv
  case' inl.inr =>
    have hKn : K ≠ 0 := by omega
    have tk : ((K : Int) == 14) = true := by rw [beq_iff_eq]; omega
  case' inr.inl =>
    have hKn : K ≠ 0 := by omega
    have tk : ((K : Int) == 14) = true := by rw [beq_iff_eq]; omega
  case inl.inr =>
    replace hKz := hide hKz
    clear hs1 hs2 hq10 hq11
    obtain ⟨rfl, rfl, rfl, rfl, rfl, rfl, rfl⟩ := hbad.out hKn
    go_wp2_with fail
    refine (awake_any _).mono ?_
    rintro e w5 ⟨rfl, hb5⟩
    have hB5 := hBd.out.trans (hb5.mono hBd.out.size)
    clear hb5
    replace hB5 := hide hB5
    go_wp2_with fail
    go_ret
    exact ⟨rfl, hB5.out⟩
  case inr.inl =>
    replace hKz := hide hKz
    clear hs1 hs2 hq10 hq11
    obtain ⟨rfl, rfl, rfl, rfl, rfl, rfl, rfl⟩ := hbad.out hKn
    go_wp2_with fail
    refine (awake_any _).mono ?_
    rintro e w5 ⟨rfl, hb5⟩
    have hB5 := hBd.out.trans (hb5.mono hBd.out.size)
    clear hb5
    replace hB5 := hide hB5
    go_wp2_with fail
    go_ret
    exact ⟨rfl, hB5.out⟩
  all_goals
    obtain ⟨rfl, rfl, rfl, rfl, rfl, rfl, rfl⟩ := hgood.out hKz
    have tk : ((K : Int) == 0) = true := by rw [beq_iff_eq]; omega
    replace hKz := hide hKz
    go_wp2_with fail
    refine (awake_any _).mono ?_
    rintro e w5 ⟨rfl, hb5⟩
    have hB5 := hBd.out.trans (hb5.mono hBd.out.size)
    clear hb5 hs1 hs2 hq10 hq11
    replace hB5 := hide hB5
    go_wp2_with fail
    go_ret
    exact ⟨rfl, hB5.out⟩
theorem opens_walk (A : Option Addr) (n0 c : Nat) (xs0 : List UInt8) (w : World) (hx0 : IsB w w.heap.size A n0 xs0) (hnc : n0 ≤ c) (hcm : c ≤ maxLen) :
    Calls Try.prog 5 #[.slice A n0 c] w fun e w' => e = .returned (.bool true) ∧ Below w.heap.size w w' := by
  obtain ⟨n, hn⟩ : ∃ n, min n0 500 = n := ⟨_, rfl⟩
  obtain ⟨xs, hxs⟩ : ∃ xs, xs0.take n = xs := ⟨_, rfl⟩
  have hx : IsB w w.heap.size A n xs := hxs ▸ hx0.take (m := n) (by omega)
  by_cases h6 : 0 < n ∧ (xs.getD 0 0).toNat / 16 = 6
  · rcases six_is n xs hx.1 (by omega) with ⟨K, hK, _, hS⟩ | ⟨cl, la, ho, sh, sl, dh, dl, acc, nx, m1, rest, _, _, _, _, hle, _, _, _, _, hS⟩
    · exact opens_aux A n0 n c xs w hx hn hnc hcm true (decide_eq_true h6) _ _ _ _ _ _ _ _ _ _ (outer_six n xs K _ _ _ _ _ _ _ _ _ _ _ _ _ hS h6.1 h6.2 _ rfl) (by unfold LawIs; rw [if_pos rfl]; exact ⟨K, _, _, _, _, hS, rfl⟩) (by omega)
    · exact opens_aux A n0 n c xs w hx hn hnc hcm true (decide_eq_true h6) _ _ _ _ _ _ _ _ _ _ (outer_six n xs 0 _ _ _ _ _ _ _ _ _ _ _ _ _ hS h6.1 h6.2 _ rfl) (by unfold LawIs; rw [if_pos rfl]; exact ⟨0, _, _, _, _, hS, rfl⟩) (by omega)
  · have h4 : n = 0 ∨ (xs.getD 0 0).toNat / 16 ≠ 6 := by
      by_cases h : n = 0
      · exact .inl h
      · exact .inr (fun h2 => h6 ⟨by omega, h2⟩)
    rcases four_is n xs hx.1 (by omega) with ⟨K, hK, _, hS⟩ | ⟨tos, id, df, mf, frag, ttl, proto, slo, dlo, n1, m1, rest, hle, _, _, _, _, _, _, hS⟩
    · exact opens_aux A n0 n c xs w hx hn hnc hcm false (decide_eq_false h6) _ _ _ _ _ _ _ _ _ _ (outer_four n xs K _ _ _ _ _ _ _ _ _ _ _ _ hS h4 _ rfl) (by unfold LawIs; rw [if_neg (by simp)]; exact ⟨K, _, _, _, _, _, _, _, _, _, rfl, rfl, rfl, rfl, rfl, rfl, hS, rfl⟩) (by omega)
    · exact opens_aux A n0 n c xs w hx hn hnc hcm false (decide_eq_false h6) _ _ _ _ _ _ _ _ _ _ (outer_four n xs 0 _ _ _ _ _ _ _ _ _ _ _ _ hS h4 _ rfl) (by unfold LawIs; rw [if_neg (by simp)]; exact ⟨0, _, _, _, _, _, _, _, _, _, rfl, rfl, rfl, rfl, rfl, rfl, hS, rfl⟩) (by omega)
end Tun
end Go.Proofs.Ytdmgbngdpjcliaa
