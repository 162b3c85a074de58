/- The example of chapter 14. No condition. -/
import Derived.Test.YtdmgbngdpjcliaaTunTtl
namespace Go.Proofs.Ytdmgbngdpjcliaa
open Go.RowKit Go.ChangeShapes Go.WideShapes Go.ChangeAt Go.Deep
namespace Tun
/-- What a packet in one of version 4 is opened as. -/
theorem four_opens (p slo dlo n : Nat) (xs ys : List UInt8) (hxl : xs.length = n) (hn : n ≤ 4096) (hp : innerP xs = p) (hk : innerK n xs = 0) (b6 : slo < 4294967296) (b8 : dlo < 4294967296) (hys : Four.hdB 0 0 16384 64 p slo dlo [] n ++ xs = ys) :
    ∀ (A : Option Addr) (c : Nat) (W : World), IsB W W.heap.size A (20 + n) ys → 20 + n ≤ c → c ≤ maxLen → Calls Try.prog 23 #[.slice A (20 + n) c] W fun e w' => OpenEnd 0 false 0 slo false 0 dlo n xs W w' e := by
  have hp5 : (p = 4 ∨ p = 41) ∧ p ≤ 255 := by
    unfold innerP at hp
    unfold innerK at hk
    split at hk
    · cases hk
    · split at hk
      · rename_i h
        split at hp
        · omega
        · split at hp <;> omega
      · cases hk
  obtain ⟨hF, hl, hv⟩ := four_wrapped p slo dlo n xs ys hxl hn hp5.2 b6 b8 hys
  have hO := outer_four _ _ _ _ _ _ _ _ _ _ _ _ _ _ _ hF (.inr (by omega)) 0 (by simp)
  intro A c W hx hc hcm
  exact open_any _ _ _ _ _ _ _ _ _ _ _ _ hO 0 (by unfold openK; rw [if_neg (fun h => h rfl), if_neg (by omega), if_neg (fun h => h hk), if_neg (fun h => h hp)]) A c W hx hc hcm
theorem six_opens (p shi slo dhi dlo n : Nat) (xs ys : List UInt8) (hxl : xs.length = n) (hn : n ≤ 4096) (hp : innerP xs = p) (hk : innerK n xs = 0) (b5 : shi < 18446744073709551616) (b6 : slo < 18446744073709551616) (b7 : dhi < 18446744073709551616) (b8 : dlo < 18446744073709551616) (hys : Six.allB6 0 0 64 shi slo dhi dlo p [] xs = ys) :
    ∀ (A : Option Addr) (c : Nat) (W : World), IsB W W.heap.size A (40 + n) ys → 40 + n ≤ c → c ≤ maxLen → Calls Try.prog 23 #[.slice A (40 + n) c] W fun e w' => OpenEnd 0 true shi slo true dhi dlo n xs W w' e := by
  have hp5 : (p = 4 ∨ p = 41) ∧ p ≤ 255 := by
    unfold innerP at hp
    unfold innerK at hk
    split at hk
    · cases hk
    · split at hk
      · rename_i h
        split at hp
        · omega
        · split at hp <;> omega
      · cases hk
  obtain ⟨hF, hl, hv⟩ := six_wrapped p shi slo dhi dlo n xs ys hxl hn hp5.1 b5 b6 b7 b8 hys
  have hO := outer_six _ _ _ _ _ _ _ _ _ _ _ _ _ _ _ _ hF (by omega) hv 0 (by simp [Six.frag_nil])
  intro A c W hx hc hcm
  exact open_any _ _ _ _ _ _ _ _ _ _ _ _ hO 0 (by unfold openK; rw [if_neg (fun h => h rfl), if_neg (by omega), if_neg (fun h => h hk), if_neg (fun h => h hp)]) A c W hx hc hcm
theorem over40 (w : World) : Calls Try.prog 25 #[.bool true] w fun e w' => e = .returned (.int .i64 40) ∧ Below w.heap.size w w' := (over_any true w).mono fun _ _ ⟨h1, h2⟩ => ⟨h1, h2 ▸ Below.refl _ _⟩
theorem over20 (w : World) : Calls Try.prog 25 #[.bool false] w fun e w' => e = .returned (.int .i64 20) ∧ Below w.heap.size w w' := (over_any false w).mono fun _ _ ⟨h1, h2⟩ => ⟨h1, h2 ▸ Below.refl _ _⟩
set_option maxRecDepth 20000 in
set_option maxHeartbeats 4000000 in
theorem awake_any (w : World) : Calls Try.prog 22 #[] w fun e w' => e = .returned (.bool true) ∧ Below w.heap.size w w' := by
  obtain ⟨ys, hys⟩ : ∃ ys, Four.hdB 0 0 16384 64 4 1 2 [] 1 ++ [64] = ys := ⟨_, rfl⟩
  have hop := four_opens 4 1 2 1 [64] ys rfl (by omega) rfl rfl (by omega) (by omega) hys
  have hyl : ys.length = 21 := by rw [← hys, List.length_append, Four.hdB_length]; rfl
  replace hys := hide hys
  replace hop := hide hop
  replace hyl := hide hyl
  go_enter Try.func22, Try.ntmps22
  go_wp2_with fail
  refine (Four.v4_any 1 _ (by omega) (by omega)).mono ?_
  rintro e w1 ⟨rfl, hb1⟩
  replace hb1 := hide hb1
  go_wp2_with fail
  refine (Four.v4_any 2 _ (by omega) (by omega)).mono ?_
  rintro e w2 ⟨rfl, hb2⟩
  have hB2 := hb1.out.trans (hb2.mono hb1.out.size)
  clear hb2
  have hlit := OwnB.litv w2 w2.heap.size [.int .u8 64] [64] 1 rfl rfl (Nat.le_refl _) (by omega)
  have hi := hlit.reads.2.2.2
  replace hB2 := hide hB2
  replace hlit := hide hlit
  replace hi := hide hi
  go_wp2_with fail
  refine (wrap_four 1 2 _ 1 1 [64] _ hi.out (by omega) 4 rfl rfl (by omega) (by omega) (.inl rfl)).mono ?_
  rintro e w3 ⟨v3, rfl, hown, hb3⟩
  rw [hys.out] at hown
  obtain ⟨A3, c3, rfl, hc3, hm3, hi3⟩ := hown.form
  rw [hyl.out] at hc3 hi3 ⊢
  have hB3 := hB2.out.trans ((((Below.refl _ _).alloc (Nat.le_refl _) _).trans (hb3.mono (by simp))).mono hB2.out.size)
  clear hb3 hown hlit hi
  replace hB3 := hide hB3
  replace hi3 := hide hi3
  go_wp2_with fail
  refine (hop.out A3 c3 _ hi3.out hc3 hm3).mono ?_
  rintro e w4 ⟨_, h2, hb4⟩
  obtain ⟨A4, c4, rfl, hi4, hc4, hm4⟩ := h2 rfl
  clear h2
  obtain ⟨wb, hwb⟩ : ∃ wb, (w4.alloc (.cells #[.bool false, .int .u64 0, .int .u64 1] 26)).alloc (.cells #[.bool false, .int .u64 0, .int .u64 2] 26) = wb := ⟨_, rfl⟩
  have hbb : Below w4.heap.size w4 wb := hwb ▸ ((Below.refl _ _).alloc (Nat.le_refl _) _).alloc (by simp) _
  have hg6 : wb.heap[w4.heap.size]? = some (.cells #[.bool false, .int .u64 0, .int .u64 1] 26 (0, 0)) := hwb ▸ blk_old _ (by simp) (blk_new _ _ _)
  have hg7 : wb.heap[w4.heap.size + 1]? = some (.cells #[.bool false, .int .u64 0, .int .u64 2] 26 (0, 0)) := hwb ▸ (by simpa using blk_new (w4.alloc (.cells #[.bool false, .int .u64 0, .int .u64 1] 26)) 26 #[.bool false, .int .u64 0, .int .u64 2])
  have hzb : w4.heap.size + 1 < wb.heap.size := by rw [← hwb]; simp
  have hBb := hB3.out.trans ((hb4.trans (hbb.mono hb4.size)).mono hB3.out.size)
  have hib := hi4.on hbb
  have hcl := fun (l : Later wb) (o : Nat) => blk_cell (blk_below l.hb (by omega) hg6) o
  have hcm := fun (l : Later wb) (o : Nat) => blk_cell (blk_below l.hb hzb hg7) o
  have hs := fun l : Later wb => (hib.later l).str c4
  clear hb4 hbb hi4
  replace hg6 := hide hg6
  replace hg7 := hide hg7
  replace hBb := hide hBb
  replace hib := hide hib
  go_upto_region 3 with fail
  clear hwb
  have hst : str [64] = ⟨#[64]⟩ := rfl
  refine wp_region_L (by as_aux_lemma => kernel_rfl) ?_
  refine wpE_seg 0 32 (fuel := 0) (by as_aux_lemma => kernel_rfl) (fun d _ _ _ _ h => by cases d <;> exact h) (by as_aux_lemma => kernel_rfl) (by as_aux_lemma => kernel_rfl) ?_
  simp only [List.drop_zero, List.take_succ_cons, List.take_zero]
  (refine wpQE_step (fun K hK => ?_); go_simp; apply Exists.intro; refine ⟨fun l => ?_, hK _ ?_⟩; (go_at_call 25; refine (over40 _).mono ?_; rintro e w' ⟨rfl, hb⟩; exact ⟨rfl, hb⟩); clear hK K)
  iterate 2 (refine wpQE_step (fun K hK => ?_); go_simp; refine hK _ ?_; clear hK K)
  (refine wpQE_step (fun K hK => ?_); go_simp; apply Exists.intro; refine ⟨fun l => ?_, hK _ ?_⟩; (go_at_call 25; refine (over20 _).mono ?_; rintro e w' ⟨rfl, hb⟩; exact ⟨rfl, hb⟩); clear hK K)
  iterate 19 (refine wpQE_step (fun K hK => ?_); go_simp; refine hK _ ?_; clear hK K)
  (refine wpQE_step (fun K hK => ?_); go_simp; apply Exists.intro; refine ⟨fun l => ?_, hK _ ?_⟩; (go_at_call 48; refine (Four.v4_any 1 _ (by omega) (by omega)).mono ?_; rintro e w' ⟨rfl, hb⟩; exact ⟨rfl, hb⟩); clear hK K)
  iterate 4 (refine wpQE_step (fun K hK => ?_); go_simp; refine hK _ ?_; clear hK K)
  (refine wpQE_step (fun K hK => ?_); go_simp; apply Exists.intro; refine ⟨fun l => ?_, hK _ ?_⟩; (go_at_call 48; refine (Four.v4_any 2 _ (by omega) (by omega)).mono ?_; rintro e w' ⟨rfl, hb⟩; exact ⟨rfl, hb⟩); clear hK K)
  iterate 3 (refine wpQE_step (fun K hK => ?_); go_simp; refine hK _ ?_; clear hK K)
  refine wpQE_nil ?_
  refine wpE_done (by as_aux_lemma => kernel_rfl) (fun w5 hb5 => ?_) 0
  have hB5 := hBb.out.trans (hb5.mono hBb.out.size)
  clear hcl hcm hs hst hb5
  replace hB5 := hide hB5
  go_wp2_with fail
  go_ret
  exact ⟨rfl, hB5.out⟩
end Tun
end Go.Proofs.Ytdmgbngdpjcliaa
