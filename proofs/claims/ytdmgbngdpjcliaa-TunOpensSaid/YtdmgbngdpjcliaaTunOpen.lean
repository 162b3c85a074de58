/- tun.Open by contract. Conditions: slices of bytes that read as lists, sizes below 2^40. -/
import Derived.Test.YtdmgbngdpjcliaaTunOuter
namespace Go.Proofs.Ytdmgbngdpjcliaa
open Go.RowKit Go.ChangeShapes Go.WideShapes Go.ChangeAt Go.Deep
namespace Tun
/-- Why nothing lies in a packet; 0: something does. -/
def openK (K proto m1 : Nat) (rest : List UInt8) : Nat := if K ≠ 0 then K else if proto ≠ 4 ∧ proto ≠ 41 then 14 else if innerK m1 rest ≠ 0 then innerK m1 rest else if innerP rest ≠ proto then 14 else 0
/-- How tun.Open ends. -/
def OpenEnd (K : Nat) (b1 : Bool) (sh sl : Int) (b2 : Bool) (dh dl : Int) (m1 : Nat) (rest : List UInt8) (w w' : World) (e : Ending) : Prop :=
  (K ≠ 0 → e = .returned (.tuple #[.slice none 0 0, addrV false 0 0, addrV false 0 0, .int .i64 (K : Int)])) ∧
  (K = 0 → ∃ A2 c2, e = .returned (.tuple #[.slice A2 m1 c2, addrV b1 sh sl, addrV b2 dh dl, .int .i64 0]) ∧ IsB w' w'.heap.size A2 m1 rest ∧ m1 ≤ c2 ∧ c2 ≤ maxLen) ∧ Below w.heap.size w w'
set_option maxRecDepth 20000 in
set_option maxHeartbeats 8000000 in
theorem open_any (n : Nat) (xs : List UInt8) (K0 : Nat) (b1 : Bool) (sh sl : Int) (b2 : Bool) (dh dl : Int) (proto m1 : Nat) (rest : List UInt8) (hO : OutIs n xs K0 b1 sh sl b2 dh dl proto m1 rest) (K : Nat) (hK : openK K0 proto m1 rest = K)
    (A : Option Addr) (c : Nat) (w : World) (hx : IsB w w.heap.size A n xs) (hnc : n ≤ c) (hcm : c ≤ maxLen) :
    Calls Try.prog 23 #[.slice A n c] w fun e w' => OpenEnd K b1 sh sl b2 dh dl m1 rest w w' e := by
  obtain ⟨w1, hw1⟩ : ∃ w1, (w.alloc (.cells #[.bool false, .int .u64 0, .int .u64 0] 26)).alloc (.cells #[.bool false, .int .u64 0, .int .u64 0] 26) = w1 := ⟨_, rfl⟩
  have hb1 : Below w.heap.size w w1 := hw1 ▸ ((Below.refl _ _).alloc (Nat.le_refl _) _).alloc (by simp) _
  have hgs : w1.heap[w.heap.size]? = some (.cells #[.bool false, .int .u64 0, .int .u64 0] 26 (0, 0)) := hw1 ▸ blk_old _ (by simp) (blk_new _ _ _)
  have hgd : w1.heap[w.heap.size + 1]? = some (.cells #[.bool false, .int .u64 0, .int .u64 0] 26 (0, 0)) := hw1 ▸ (by simpa using blk_new (w.alloc (.cells #[.bool false, .int .u64 0, .int .u64 0] 26)) 26 #[.bool false, .int .u64 0, .int .u64 0])
  have hz1 : w.heap.size + 1 < w1.heap.size := by rw [← hw1]; simp
  have hx1 := hx.on hb1
  replace hx := hide hx
  replace hx1 := hide hx1
  replace hb1 := hide hb1
  replace hgs := hide hgs
  replace hgd := hide hgd
  replace hO := hide hO
  replace hK := hide hK
  go_enter Try.func23, Try.ntmps23
  go_wp2_with fail
  clear hw1
  refine (hO.out _ c _ hx1.out hnc hcm).mono ?_
  rintro e w2 ⟨A2, c2, rfl, hr, hm2, hc2, hb2⟩
  obtain ⟨wb, hwb⟩ : ∃ wb, (w2.alloc (.cells #[.bool b1, .int .u64 sh, .int .u64 sl] 26)).alloc (.cells #[.bool b2, .int .u64 dh, .int .u64 dl] 26) = wb := ⟨_, rfl⟩
  have hbb : Below w2.heap.size w2 wb := hwb ▸ ((Below.refl _ _).alloc (Nat.le_refl _) _).alloc (by simp) _
  have hg6 : wb.heap[w2.heap.size]? = some (.cells #[.bool b1, .int .u64 sh, .int .u64 sl] 26 (0, 0)) := hwb ▸ blk_old _ (by simp) (blk_new _ _ _)
  have hg7 : wb.heap[w2.heap.size + 1]? = some (.cells #[.bool b2, .int .u64 dh, .int .u64 dl] 26 (0, 0)) := hwb ▸ (by simpa using blk_new (w2.alloc (.cells #[.bool b1, .int .u64 sh, .int .u64 sl] 26)) 26 #[.bool b2, .int .u64 dh, .int .u64 dl])
  have hz2 := hb2.size
  have hzb : w2.heap.size + 1 < wb.heap.size := by rw [← hwb]; simp
  have hb1b := hb2.trans (hbb.mono hb2.size)
  have hgsb := blk_below hb1b (by omega) hgs.out
  have hgdb := blk_below hb1b hz1 hgd.out
  have hrb := hr.on hbb
  have hBb := hb1.out.trans (hb1b.mono hb1.out.size)
  clear hr hb2 hbb hb1b
  replace hg6 := hide hg6
  replace hg7 := hide hg7
  replace hrb := hide hrb
  replace hBb := hide hBb
  replace hgsb := hide hgsb
  replace hgdb := hide hgdb
  go_upto_region 2 with fail
  clear hwb
  have hcs := blk_cell hgsb.out
  have hfs := blk_free hgsb.out
  by_cases hK0 : K0 = 0
  case neg =>
    have t1 : ((K0 : Int) != 0) = true := by rw [bne_iff_ne]; omega
    skip
    obtain ⟨w8, e8, hg8, hgr8⟩ := set3 hgsb.out (.bool false) (.int .u64 0) (.int .u64 0)
    have hgd8 := grown_other hgr8 (show w.heap.size + 1 < wb.heap.size by omega) (by omega) hgdb.out
    have hcd := blk_cell hgd8
    have hfd := blk_free hgd8
    obtain ⟨w9, e9, hg9, hgr9⟩ := set3 hgd8 (.bool false) (.int .u64 0) (.int .u64 0)
    have hz8 := hgr8.size
    have hg89 := grown_other hgr9 (show w.heap.size < w8.heap.size by omega) (by omega) hg8
    have hB9 : Below w.heap.size w w9 := hBb.out.trans ((below_grown hgr8 (by omega) (Nat.le_refl _)).trans (below_grown hgr9 (by omega) (by omega)))
    have q1 := blk_cell hg89
    have q2 := blk_cell hg9
    have hKe : K = K0 := by rw [← hK.out]; unfold openK; rw [if_pos hK0]
    clear hgr8 hgr9
    replace hg8 := hide hg8
    replace hg89 := hide hg89
    replace hg9 := hide hg9
    replace hB9 := hide hB9
    replace hgd8 := hide hgd8
    replace hKe := hide hKe
    go_wp2_with fail
    exact bodyPost_ret (v := .tuple #[.slice none 0 0, addrV false 0 0, addrV false 0 0, .int .i64 (K0 : Nat)]) (by simp [results, Try.results23, go_sem, q1, q2]) rfl ⟨fun _ => by rw [hKe.out], fun h => absurd h (by rw [hKe.out]; exact hK0), hB9.out⟩
  have t1 : ((K0 : Int) != 0) = false := by rw [bne_eq_false_iff_eq]; omega
  obtain ⟨p, hp⟩ : ∃ p, innerP rest = p := ⟨_, rfl⟩
  obtain ⟨k, hk⟩ : ∃ k, innerK m1 rest = k := ⟨_, rfl⟩
  have hKo : K = if proto ≠ 4 ∧ proto ≠ 41 then 14 else if k ≠ 0 then k else if p ≠ proto then 14 else 0 := by
    rw [← hK.out]
    unfold openK
    rw [if_neg (fun h => h hK0), hp, hk]
  replace hp := hide hp
  replace hk := hide hk
  replace hK0 := hide hK0
  go_wp2_with fail
  refine (inner_any A2 m1 c2 rest _ hrb.out (by omega) p k hp.out hk.out).mono ?_
  rintro e w' ⟨rfl, rfl⟩
  clear hK
  have hK := hide hKo
  clear hKo
  by_cases hpr : proto ≠ 4 ∧ proto ≠ 41
  · have t2 : ((proto : Int) != 4) = true := by rw [bne_iff_ne]; omega
    have t3 : ((proto : Int) != 41) = true := by rw [bne_iff_ne]; omega
    skip
    obtain ⟨w8, e8, hg8, hgr8⟩ := set3 hgsb.out (.bool false) (.int .u64 0) (.int .u64 0)
    have hgd8 := grown_other hgr8 (show w.heap.size + 1 < wb.heap.size by omega) (by omega) hgdb.out
    have hcd := blk_cell hgd8
    have hfd := blk_free hgd8
    obtain ⟨w9, e9, hg9, hgr9⟩ := set3 hgd8 (.bool false) (.int .u64 0) (.int .u64 0)
    have hz8 := hgr8.size
    have hg89 := grown_other hgr9 (show w.heap.size < w8.heap.size by omega) (by omega) hg8
    have hB9 : Below w.heap.size w w9 := hBb.out.trans ((below_grown hgr8 (by omega) (Nat.le_refl _)).trans (below_grown hgr9 (by omega) (by omega)))
    have q1 := blk_cell hg89
    have q2 := blk_cell hg9
    have hKe : K = 14 := by rw [hK.out, if_pos hpr]
    clear hgr8 hgr9
    replace hg8 := hide hg8
    replace hg89 := hide hg89
    replace hg9 := hide hg9
    replace hB9 := hide hB9
    replace hgd8 := hide hgd8
    replace hKe := hide hKe
    go_wp2_with fail
    exact bodyPost_ret (v := .tuple #[.slice none 0 0, addrV false 0 0, addrV false 0 0, .int .i64 (14 : Nat)]) (by simp [results, Try.results23, go_sem, q1, q2]) rfl ⟨fun _ => by rw [hKe.out], fun h => absurd h (by have := hKe.out; omega), hB9.out⟩
  have hz : ((proto : Int) != 4) = false ∨ (((proto : Int) != 4) = true ∧ ((proto : Int) != 41) = false) := by
    by_cases h : proto = 4
    · exact .inl (by rw [bne_eq_false_iff_eq]; omega)
    · exact .inr ⟨by rw [bne_iff_ne]; omega, by rw [bne_eq_false_iff_eq]; omega⟩
  by_cases hk0 : k ≠ 0
  · have t4 : ((k : Int) != 0) = true := by rw [bne_iff_ne]; omega
    rcases hz with t2 | ⟨t2, t3⟩
    all_goals
      skip
      obtain ⟨w8, e8, hg8, hgr8⟩ := set3 hgsb.out (.bool false) (.int .u64 0) (.int .u64 0)
      have hgd8 := grown_other hgr8 (show w.heap.size + 1 < wb.heap.size by omega) (by omega) hgdb.out
      have hcd := blk_cell hgd8
      have hfd := blk_free hgd8
      obtain ⟨w9, e9, hg9, hgr9⟩ := set3 hgd8 (.bool false) (.int .u64 0) (.int .u64 0)
      have hz8 := hgr8.size
      have hg89 := grown_other hgr9 (show w.heap.size < w8.heap.size by omega) (by omega) hg8
      have hB9 : Below w.heap.size w w9 := hBb.out.trans ((below_grown hgr8 (by omega) (Nat.le_refl _)).trans (below_grown hgr9 (by omega) (by omega)))
      have q1 := blk_cell hg89
      have q2 := blk_cell hg9
      have hKe : K = k := by rw [hK.out, if_neg hpr, if_pos hk0]
      clear hgr8 hgr9
      replace hg8 := hide hg8
      replace hg89 := hide hg89
      replace hg9 := hide hg9
      replace hB9 := hide hB9
      replace hgd8 := hide hgd8
      replace hKe := hide hKe
      go_wp2_with fail
      exact bodyPost_ret (v := .tuple #[.slice none 0 0, addrV false 0 0, addrV false 0 0, .int .i64 (k : Nat)]) (by simp [results, Try.results23, go_sem, q1, q2]) rfl ⟨fun _ => by rw [hKe.out], fun h => absurd h (by rw [hKe.out]; exact hk0), hB9.out⟩
  have t4 : ((k : Int) != 0) = false := by rw [bne_eq_false_iff_eq]; omega
  by_cases hpp : p ≠ proto
  · have t5 : ((p : Int) != (proto : Int)) = true := by rw [bne_iff_ne]; omega
    rcases hz with t2 | ⟨t2, t3⟩
    all_goals
      skip
      obtain ⟨w8, e8, hg8, hgr8⟩ := set3 hgsb.out (.bool false) (.int .u64 0) (.int .u64 0)
      have hgd8 := grown_other hgr8 (show w.heap.size + 1 < wb.heap.size by omega) (by omega) hgdb.out
      have hcd := blk_cell hgd8
      have hfd := blk_free hgd8
      obtain ⟨w9, e9, hg9, hgr9⟩ := set3 hgd8 (.bool false) (.int .u64 0) (.int .u64 0)
      have hz8 := hgr8.size
      have hg89 := grown_other hgr9 (show w.heap.size < w8.heap.size by omega) (by omega) hg8
      have hB9 : Below w.heap.size w w9 := hBb.out.trans ((below_grown hgr8 (by omega) (Nat.le_refl _)).trans (below_grown hgr9 (by omega) (by omega)))
      have q1 := blk_cell hg89
      have q2 := blk_cell hg9
      have hKe : K = 14 := by rw [hK.out, if_neg hpr, if_neg hk0, if_pos hpp]
      clear hgr8 hgr9
      replace hg8 := hide hg8
      replace hg89 := hide hg89
      replace hg9 := hide hg9
      replace hB9 := hide hB9
      replace hgd8 := hide hgd8
      replace hKe := hide hKe
      go_wp2_with fail
      exact bodyPost_ret (v := .tuple #[.slice none 0 0, addrV false 0 0, addrV false 0 0, .int .i64 (14 : Nat)]) (by simp [results, Try.results23, go_sem, q1, q2]) rfl ⟨fun _ => by rw [hKe.out], fun h => absurd h (by have := hKe.out; omega), hB9.out⟩
  have t5 : ((p : Int) != (proto : Int)) = false := by rw [bne_eq_false_iff_eq]; omega
  have hKe : K = 0 := by rw [hK.out, if_neg hpr, if_neg hk0, if_neg hpp]
  clear hcs hfs
  replace hKe := hide hKe
  replace hpr := hide hpr
  replace hpp := hide hpp
  rcases hz with t2 | ⟨t2, t3⟩
  all_goals
    go_wp2_with fail
    refine wp_region_S wb.heap.size (fun k => k = w.heap.size ∨ k = w.heap.size + 1) (by as_aux_lemma => kernel_rfl) ?_
    intro wd hbd
    have hzd := hbd.size
    have hgsd := blk_below hbd (by omega) hgsb.out
    have hgdd := blk_below hbd (by omega) hgdb.out
    have hg6d := blk_below hbd (by omega) hg6.out
    have hg7d := blk_below hbd hzb hg7.out
    have hrd := hrb.out.on hbd
    have hn1 : ¬ (w2.heap.size = w.heap.size ∨ w2.heap.size = w.heap.size + 1) := by omega
    have hn2 : ¬ (w2.heap.size + 1 = w.heap.size ∨ w2.heap.size + 1 = w.heap.size + 1) := by omega
    have hcl := fun (l : KeptSW wb.heap.size (fun k => k = w.heap.size ∨ k = w.heap.size + 1) wd) (o : Nat) => blk_cell (l.blk hg6d (by omega) hn1) o
    have hcm := fun (l : KeptSW wb.heap.size (fun k => k = w.heap.size ∨ k = w.heap.size + 1) wd) (o : Nat) => blk_cell (l.blk hg7d hzb hn2) o
    have hcs := blk_cell hgsd
    have hfs := blk_free hgsd
    obtain ⟨w8, e8, hg8, hgr8⟩ := set3 hgsd (.bool b1) (.int .u64 sh) (.int .u64 sl)
    have hgd8 := grown_other hgr8 (show w.heap.size + 1 < wd.heap.size by omega) (by omega) hgdd
    have hcd := blk_cell hgd8
    have hfd := blk_free hgd8
    obtain ⟨w9, e9, hg9, hgr9⟩ := set3 hgd8 (.bool b2) (.int .u64 dh) (.int .u64 dl)
    have hz8 := hgr8.size
    have hg89 := grown_other hgr9 (show w.heap.size < w8.heap.size by omega) (by omega) hg8
    have hB9 : Below w.heap.size w w9 := hBb.out.trans ((hbd.mono (by omega)).trans ((below_grown hgr8 (by omega) (Nat.le_refl _)).trans (below_grown hgr9 (by omega) (by omega))))
    have hk8 : KeptS wb.heap.size (fun k => k = w.heap.size ∨ k = w.heap.size + 1) wd w8 := e8 ▸ keptS_set (keptS_set (keptS_set (keptS_refl _ _ _) (.inl rfl) _) (.inl rfl) _) (.inl rfl) _
    have hk9 : KeptS wb.heap.size (fun k => k = w.heap.size ∨ k = w.heap.size + 1) w8 w9 := e9 ▸ keptS_set (keptS_set (keptS_set (keptS_refl _ _ _) (.inr rfl) _) (.inr rfl) _) (.inr rfl) _
    have hr9 := (isB_addr (isB_addr hrd hgr8 (Nat.le_refl _) hgsd) hgr9 hz8 hgd8).more (Nat.le_trans hz8 hgr9.size)
    clear hgr8 hgr9
    replace hg8 := hide hg8
    replace hg89 := hide hg89
    replace hg9 := hide hg9
    replace hB9 := hide hB9
    replace hgd8 := hide hgd8
    replace hk8 := hide hk8
    replace hk9 := hide hk9
    replace hgsd := hide hgsd
    replace hgdd := hide hgdd
    replace hg6d := hide hg6d
    replace hg7d := hide hg7d
    replace hrd := hide hrd
    replace hbd := hide hbd
    replace hr9 := hide hr9
    refine wpS_seg wb.heap.size (fun k => k = w.heap.size ∨ k = w.heap.size + 1) 0 3 (fuel := 4) (by as_aux_lemma => kernel_rfl) (fun d _ _ _ _ h => by cases d <;> exact h) (by as_aux_lemma => kernel_rfl) (by as_aux_lemma => kernel_rfl) ?_
    simp only [List.drop_zero, List.take_succ_cons, List.take_zero]
    iterate 3 (refine wpQS_step (fun K hK => ?_); go_simp; refine hK _ ?_; clear hK K)
    refine wpQF_nil ?_
    refine wpF_step 3 rfl (by as_aux_lemma => kernel_rfl) (fun K hK => ?_)
    go_simp
    refine hK _ _ (keptS_refl _ _ _) ?_
    clear hK K
    refine wpF_step 4 rfl (by as_aux_lemma => kernel_rfl) (fun K' hK' => ?_)
    go_simp
    refine hK' _ _ hk8.out ?_
    clear hK' K'
    refine wpF_step 5 rfl (by as_aux_lemma => kernel_rfl) (fun K' hK' => ?_)
    go_simp
    refine hK' _ _ hk9.out ?_
    clear hK' K'
    refine wpF_step 6 rfl (by as_aux_lemma => kernel_rfl) (fun K' hK' => ?_)
    go_simp
    refine hK' _ _ (keptS_refl _ _ _) ?_
    clear hK' K'
    refine wpF_done (by as_aux_lemma => kernel_rfl) ?_ 0
    clear hcl hcm hcs hfs hcd hfd e8 e9
    have q1 := blk_cell hg89.out
    have q2 := blk_cell hg9.out
    go_wp2_with fail
    exact bodyPost_ret (v := .tuple #[.slice A2 m1 c2, addrV b1 sh sl, addrV b2 dh dl, .int .i64 0]) (by simp [results, Try.results23, go_sem, q1, q2]) rfl ⟨fun h => absurd hKe.out h, fun _ => ⟨A2, c2, rfl, hr9.out, hm2, hc2⟩, hB9.out⟩
end Tun
end Go.Proofs.Ytdmgbngdpjcliaa
