/- The statement IcmpParses, walked: whatever the bytes are, the call returns true and leaves what was there. Conditions: slices of bytes that read as lists. -/
import Derived.Test.YtniieckjooahfaaIcmpParse
import Derived.Test.YtniieckjooahfaaRef04
namespace Go.Proofs.Ytniieckjooahfaa
open Go.RowKit Go.ChangeShapes Go.WideShapes Go.ChangeAt Go.Deep
namespace Icmp
set_option maxHeartbeats 400000 in
theorem awake_any (w : World) :
    Calls Try.prog 17 #[] w fun e w' => e = .returned (.bool true) ∧ Below w.heap.size w w' := by
  go_enter Try.func17, Try.ntmps17
  go_wp2
  go_ret
  exact ⟨rfl, Below.refl _ _⟩
theorem cut_as (A : Option Addr) (n c n1 : Nat) (w : World) (hn : n ≤ maxLen) (hc : n ≤ c) (h : min n 300 = n1) :
    Calls Try.prog 23 #[.slice A n c] w fun e w' => e = .returned (.slice A n1 c) ∧ w = w' := h ▸ cut_any A n c w hn hc
set_option maxHeartbeats 1000000 in
theorem law_short (A P : Option Addr) (n c n1 m d m1 : Nat) (w : World) (hnm : n ≤ maxLen) (hm : m ≤ maxLen) (hnc : n ≤ c) (hmd : m ≤ d) (hn1 : min n 300 = n1) (hm1 : min m 300 = m1) (h8 : n1 < 8) :
    Calls Try.prog 5 #[.slice A n c, .slice P m d] w fun e w' => e = .returned (.bool true) ∧ Below w.heap.size w w' := by
  replace hn1 := hide hn1
  replace hm1 := hide hm1
  go_enter Try.func5, Try.ntmps5
  go_wp2_with fail
  refine (cut_as A n c n1 _ hnm hnc hn1.out).mono ?_
  rintro e w' ⟨rfl, rfl⟩
  go_wp2_with fail
  refine (cut_as P m d m1 _ hm hmd hm1.out).mono ?_
  rintro e w' ⟨rfl, rfl⟩
  go_wp2_with fail
  refine (parse_short A P n1 c m1 d _ h8).mono ?_
  rintro e w1 ⟨rfl, hb⟩
  unfold msg0
  go_wp2_with fail
  refine (same_eq 0 0 0 none none 0 0 0 0 [] _ (IsB.nil _ _ _) (IsB.nil _ _ _)).mono ?_
  rintro e w2 ⟨rfl, hb2⟩
  go_wp2_with fail
  refine (awake_any _).mono ?_
  rintro e w3 ⟨rfl, hb3⟩
  go_wp2_with fail
  go_ret
  refine ⟨rfl, ?_⟩
  have hz := hb.size
  have hz2 := hb2.size
  simp only [World.size_alloc] at hz2
  exact ((hb.alloc hz _).trans (hb2.mono (by simp; omega))).trans (hb3.mono (by omega))
set_option maxHeartbeats 2000000 in
theorem law_sum (A P : Option Addr) (n c n1 m d m1 : Nat) (xs ps : List UInt8) (w : World) (hx : IsB w w.heap.size A n1 xs) (hp : IsB w w.heap.size P m1 ps) (hnm : n ≤ maxLen) (hm : m ≤ maxLen) (hnc : n ≤ c) (hmd : m ≤ d) (hn1 : min n 300 = n1) (hm1 : min m 300 = m1) (h8 : 8 ≤ n1)
    (hs : Sum.ones (Sum.tot false (ps ++ xs)) ≠ 65535) :
    Calls Try.prog 5 #[.slice A n c, .slice P m d] w fun e w' => e = .returned (.bool true) ∧ Below w.heap.size w w' := by
  have hb1 : n1 ≤ 300 := by omega
  have hb2 : m1 ≤ 300 := by omega
  have hne : (((Sum.ones (Sum.tot false (ps ++ xs)) : Nat) : Int) != 65535) = true := by rw [bne_iff_ne]; omega
  have hlx := hx.1
  have hlp := hp.1
  have hlen : (ps ++ xs).length ≤ 1048576 := by rw [List.length_append, hlx, hlp]; omega
  replace hlx := hide hlx
  replace hlp := hide hlp
  replace hn1 := hide hn1
  replace hm1 := hide hm1
  replace hs := hide hs
  replace hx := hide hx
  replace hp := hide hp
  go_enter Try.func5, Try.ntmps5
  go_wp2_with fail
  refine (cut_as A n c n1 _ hnm hnc hn1.out).mono ?_
  rintro e w' ⟨rfl, rfl⟩
  go_wp2_with fail
  refine (cut_as P m d m1 _ hm hmd hm1.out).mono ?_
  rintro e w' ⟨rfl, rfl⟩
  go_wp2_with fail
  refine (parse_sum A P n1 c m1 d xs ps _ hx.out hp.out h8 (by unfold maxLen; omega) (by unfold maxLen; omega) hs.out).mono ?_
  rintro e w1 ⟨rfl, hb⟩
  unfold msg0
  have hz := hb.size
  have hx1 := hx.out.on hb
  have hp1 := hp.out.on hb
  replace hb := hide hb
  replace hx1 := hide hx1
  replace hp1 := hide hp1
  go_wp2_with (at_builtin; refine wpl_src_b rfl (.tmp 31) (.tmp 32) rfl (w1.heap.size + 1) _ [] ps _ _ _ (w1.heap.size + 2) rfl rfl ?_ ?_ ?_ ?_ ?_)
  · exact OwnB.emptyAt _ _ (by simp) _ (Nat.le_refl _)
  · exact ((hp1.out.alloc _).alloc _).more (by simp)
  · simp
  · simp; omega
  intro v2 w2 hown2 hb2 _ _
  have hbb : Below w1.heap.size w1 w2 := (((Below.refl _ _).alloc (Nat.le_refl _) _).alloc (by simp) _).trans (hb2.mono (by omega))
  have hx2 := hx1.out.on hbb
  have hz2 := hb2.size
  simp only [World.size_alloc] at hz2
  replace hown2 := hide hown2
  replace hbb := hide hbb
  replace hx2 := hide hx2
  replace hb2 := hide hb2
  go_wp2_with (at_builtin; refine wpl_src_b rfl (.tmp 33) (.tmp 34) rfl (w1.heap.size + 1) _ ps xs _ _ _ w2.heap.size rfl rfl ?_ ?_ ?_ ?_ ?_)
  · exact hown2.out
  · exact hx2.out
  · omega
  · rw [hlp.out]; omega
  intro v3 w3 hown3 hb3 _ _
  obtain ⟨A3, c3, rfl, hc3, hm3, hi3⟩ := hown3.form
  have hbc : Below w1.heap.size w1 w3 := hbb.out.trans (hb3.mono (by omega))
  have hz3 := hb3.size
  have hcm : w3.cell? ⟨w1.heap.size, 0, none⟩ = w3.cell? ⟨w1.heap.size, 0, none⟩ := rfl
  clear hcm
  replace hown3 := hide hown3
  replace hbc := hide hbc
  replace hb3 := hide hb3
  obtain ⟨k3, hk3⟩ : ∃ k, (ps ++ xs).length = k := ⟨_, rfl⟩
  rw [hk3] at hi3 hc3 hlen ⊢
  replace hi3 := hide hi3
  replace hk3 := hide hk3
  go_wp2_with fail
  refine (Sum.refOf_any _ _ _ (ps ++ xs) _ hi3.out hlen).mono ?_
  rintro e w4 ⟨rfl, hb4⟩
  have hz4 := hb4.size
  have hblk : w4.heap[w1.heap.size]? = some (.cells #[.int .i64 0, .int .i64 0, .int .u32 0, .slice none 0 0] 39 (0, 0)) :=
    blk_below hb4 (by omega) (blk_below hb3.out (by omega) (blk_below hb2.out (by omega) (blk_old _ (by simp) (blk_new _ _ _))))
  have hcell := blk_cell hblk
  replace hblk := hide hblk
  replace hb4 := hide hb4
  go_wp2_with fail
  refine (same_eq 0 0 0 none none 0 0 0 0 [] _ (IsB.nil _ _ _) (IsB.nil _ _ _)).mono ?_
  rintro e w5 ⟨rfl, hb5⟩
  go_wp2_with fail
  refine (awake_any _).mono ?_
  rintro e w6 ⟨rfl, hb6⟩
  go_wp2_with fail
  go_ret
  refine ⟨rfl, ?_⟩
  have hz5 := hb5.size
  exact (((((hb.out.trans (hbc.out.mono hz)).trans (hb4.out.mono (by omega))).trans (hb5.mono (by omega)))).trans (hb6.mono (by omega)))
theorem word_eq (a b c d : Nat) : ((a * 256 + b) * 256 + c) * 256 + d = a * 16777216 + b * 65536 + c * 256 + d := by omega
set_option maxHeartbeats 2000000 in
theorem law_ok (A P : Option Addr) (n c n1 m d m1 : Nat) (xs ps : List UInt8) (w : World) (hx : IsB w w.heap.size A n1 xs) (hp : IsB w w.heap.size P m1 ps) (hnm : n ≤ maxLen) (hm : m ≤ maxLen) (hnc : n ≤ c) (hmd : m ≤ d) (hn1 : min n 300 = n1) (hm1 : min m 300 = m1) (h8 : 8 ≤ n1)
    (hs : Sum.ones (Sum.tot false (ps ++ xs)) = 65535) :
    Calls Try.prog 5 #[.slice A n c, .slice P m d] w fun e w' => e = .returned (.bool true) ∧ Below w.heap.size w w' := by
  have hb1 : n1 ≤ 300 := by omega
  have hb2 : m1 ≤ 300 := by omega
  have hne : (((Sum.ones (Sum.tot false (ps ++ xs)) : Nat) : Int) != 65535) = false := by rw [hs]; rfl
  have hlx := hx.1
  have hlp := hp.1
  have hlen : (ps ++ xs).length ≤ 1048576 := by rw [List.length_append, hlx, hlp]; omega
  have hlx8 : (xs.drop 8).length = n1 - 8 := by rw [List.length_drop, hlx]
  replace hlx := hide hlx
  replace hlx8 := hide hlx8
  replace hlp := hide hlp
  replace hn1 := hide hn1
  replace hm1 := hide hm1
  replace hs := hide hs
  replace hx := hide hx
  replace hp := hide hp
  go_enter Try.func5, Try.ntmps5
  go_wp2_with fail
  refine (cut_as A n c n1 _ hnm hnc hn1.out).mono ?_
  rintro e w' ⟨rfl, rfl⟩
  go_wp2_with fail
  refine (cut_as P m d m1 _ hm hmd hm1.out).mono ?_
  rintro e w' ⟨rfl, rfl⟩
  go_wp2_with fail
  refine (parse_ok A P n1 c m1 d xs ps _ hx.out hp.out h8 (by have := hn1.out; omega) (by omega) (by unfold maxLen; omega) hs.out).mono ?_
  rintro e w1 ⟨A', m', c', rfl, hi', hmc', hcm', hb⟩
  obtain ⟨b, off, v0, rfl, hbl, hv0, hv0l, hc0⟩ := hx.out.byte (i := 0) (by omega)
  obtain ⟨v1, hv1, hv1l, hc1⟩ := hx.out.byteAt (i := 1) (by omega)
  obtain ⟨v4, hv4, hv4l, hc4⟩ := hx.out.byteAt (i := 4) (by omega)
  obtain ⟨v5, hv5, hv5l, hc5⟩ := hx.out.byteAt (i := 5) (by omega)
  obtain ⟨v6, hv6, hv6l, hc6⟩ := hx.out.byteAt (i := 6) (by omega)
  obtain ⟨v7, hv7, hv7l, hc7⟩ := hx.out.byteAt (i := 7) (by omega)
  have hbe : beN xs 4 4 = v4 * 16777216 + v5 * 65536 + v6 * 256 + v7 := by
    simp only [beN, Nat.zero_mul, Nat.zero_add]
    rw [show 4 + 0 = 4 by rfl, hv4, hv5, hv6, hv7]
    exact word_eq _ _ _ _
  have hmsg : msgV xs A' m' c' = .agg #[.int .i64 (v0 : Nat), .int .i64 (v1 : Nat), .int .u32 ((v4 : Int) * 16777216 + (v5 : Int) * 65536 + (v6 : Int) * 256 + (v7 : Int)), .slice A' m' c'] := by
    unfold msgV
    rw [hv0, hv1, hbe]
    simp
  rw [hmsg]
  rw [Nat.add_zero] at hc0
  clear hc0 hc1 hc4 hc5 hc6 hc7
  have hm' := hi'.1
  rw [hlx8.out] at hm'
  subst hm'
  have hz := hb.size
  have hx1 := hx.out.on hb
  have hp1 := hp.out.on hb
  replace hb := hide hb
  replace hx1 := hide hx1
  replace hp1 := hide hp1
  replace hi' := hide hi'
  replace hbe := hide hbe
  replace hmsg := hide hmsg
  replace hv0 := hide hv0
  replace hv1 := hide hv1
  replace hv4 := hide hv4
  replace hv5 := hide hv5
  replace hv6 := hide hv6
  replace hv7 := hide hv7
  go_wp2_with (at_builtin; refine wpl_src_b rfl (.tmp 31) (.tmp 32) rfl (w1.heap.size + 1) _ [] ps _ _ _ (w1.heap.size + 2) rfl rfl ?_ ?_ ?_ ?_ ?_)
  · exact OwnB.emptyAt _ _ (by simp) _ (Nat.le_refl _)
  · exact ((hp1.out.alloc _).alloc _).more (by simp)
  · simp
  · simp; omega
  intro v2 w2 hown2 hb2 _ _
  have hbb : Below w1.heap.size w1 w2 := (((Below.refl _ _).alloc (Nat.le_refl _) _).alloc (by simp) _).trans (hb2.mono (by omega))
  have hx2 := hx1.out.on hbb
  have hz2 := hb2.size
  simp only [World.size_alloc] at hz2
  replace hown2 := hide hown2
  replace hbb := hide hbb
  replace hx2 := hide hx2
  replace hb2 := hide hb2
  go_wp2_with (at_builtin; refine wpl_src_b rfl (.tmp 33) (.tmp 34) rfl (w1.heap.size + 1) _ ps xs _ _ _ w2.heap.size rfl rfl ?_ ?_ ?_ ?_ ?_)
  · exact hown2.out
  · exact hx2.out
  · omega
  · rw [hlp.out]; omega
  intro v3 w3 hown3 hb3 _ _
  obtain ⟨A3, c3, rfl, hc3, hm3, hi3⟩ := hown3.form
  have hbc : Below w1.heap.size w1 w3 := hbb.out.trans (hb3.mono (by omega))
  have hz3 := hb3.size
  replace hown3 := hide hown3
  replace hbc := hide hbc
  replace hb3 := hide hb3
  obtain ⟨k3, hk3⟩ : ∃ k, (ps ++ xs).length = k := ⟨_, rfl⟩
  rw [hk3] at hi3 hc3 hlen ⊢
  replace hi3 := hide hi3
  replace hk3 := hide hk3
  go_wp2_with fail
  refine (Sum.refOf_any _ _ _ (ps ++ xs) _ hi3.out hlen).mono ?_
  rintro e w4 ⟨rfl, hb4⟩
  have hz4 := hb4.size
  have hbd : Below w1.heap.size w1 w4 := hbc.out.trans (hb4.mono (by omega))
  have hx4 := hx1.out.on hbd
  have hi4 := hi'.out.on hbd
  obtain ⟨_, hv0', _, hc0⟩ := hx4.byteAt (i := 0) (by omega)
  obtain ⟨_, hv1', _, hc1⟩ := hx4.byteAt (i := 1) (by omega)
  obtain ⟨_, hv4', _, hc4⟩ := hx4.byteAt (i := 4) (by omega)
  obtain ⟨_, hv5', _, hc5⟩ := hx4.byteAt (i := 5) (by omega)
  obtain ⟨_, hv6', _, hc6⟩ := hx4.byteAt (i := 6) (by omega)
  obtain ⟨_, hv7', _, hc7⟩ := hx4.byteAt (i := 7) (by omega)
  rw [hv0.out] at hv0'
  rw [hv1.out] at hv1'
  rw [hv4.out] at hv4'
  rw [hv5.out] at hv5'
  rw [hv6.out] at hv6'
  rw [hv7.out] at hv7'
  subst hv0' hv1' hv4' hv5' hv6' hv7'
  rw [Nat.add_zero] at hc0
  obtain ⟨A8, hA8⟩ : ∃ A8, (if c = 8 then some (⟨b, off, none⟩ : Addr) else some ⟨b, off + 8, none⟩) = A8 := ⟨_, rfl⟩
  have hx8 : IsB w4 w4.heap.size A8 (n1 - 8) (xs.drop 8) := by
    have h8 := hx4.cut (k := 8) (m := n1) (cap := c) (by omega) (Nat.le_refl _) (by have := hn1.out; omega)
    rw [List.take_of_length_le (by rw [hlx.out]; omega)] at h8
    rw [← hA8]
    exact h8
  have hblk : w4.heap[w1.heap.size]? = some (.cells #[.int .i64 (v0 : Nat), .int .i64 (v1 : Nat), .int .u32 ((v4 : Int) * 16777216 + (v5 : Int) * 65536 + (v6 : Int) * 256 + (v7 : Int)), .slice A' (n1 - 8) c'] 39 (0, 0)) :=
    blk_below hb4 (by omega) (blk_below hb3.out (by omega) (blk_below hb2.out (by omega) (blk_old _ (by simp) (blk_new _ _ _))))
  replace hb4 := hide hb4
  replace hx4 := hide hx4
  replace hi4 := hide hi4
  replace hx8 := hide hx8
  replace hbd := hide hbd
  replace hblk := hide hblk
  have hd0 : ∀ l : Later w4, l.w.cell? ⟨b, off, none⟩ = some (.int .u8 (v0 : Nat)) := fun l => l.cell hc0
  have hd1 : ∀ l : Later w4, l.w.cell? ⟨b, off + 1, none⟩ = some (.int .u8 (v1 : Nat)) := fun l => l.cell hc1
  have hd4 : ∀ l : Later w4, l.w.cell? ⟨b, off + 4, none⟩ = some (.int .u8 (v4 : Nat)) := fun l => l.cell hc4
  have hd5 : ∀ l : Later w4, l.w.cell? ⟨b, off + 5, none⟩ = some (.int .u8 (v5 : Nat)) := fun l => l.cell hc5
  have hd6 : ∀ l : Later w4, l.w.cell? ⟨b, off + 6, none⟩ = some (.int .u8 (v6 : Nat)) := fun l => l.cell hc6
  have hd7 : ∀ l : Later w4, l.w.cell? ⟨b, off + 7, none⟩ = some (.int .u8 (v7 : Nat)) := fun l => l.cell hc7
  clear hc0 hc1 hc4 hc5 hc6 hc7
  have i0 : 0 < n1 := by omega
  have i1 : 1 < n1 := by omega
  have i4 : 4 < n1 := by omega
  have i5 : 5 < n1 := by omega
  have i6 : 6 < n1 := by omega
  have i7 : 7 < n1 := by omega
  have k1 : (1 : Int) < (n1 : Int) := by omega
  have k4 : (4 : Int) < (n1 : Int) := by omega
  have k5 : (5 : Int) < (n1 : Int) := by omega
  have k6 : (6 : Int) < (n1 : Int) := by omega
  have k7 : (7 : Int) < (n1 : Int) := by omega
  have k8 : (8 : Int) ≤ (n1 : Int) := by omega
  go_wp2_with fail
  refine wp_region_later (by kernel_rfl) (by kernel_rfl) ?_
  repeat (refine wpQuiet_step (fun K hK => ?_); go_simp; (try go_bits); refine hK _ ?_; clear hK K)
  refine wpQuiet_nil ?_
  intro l
  have hblk2 := blk_below l.hb (by omega) hblk.out
  have hz5 := l.hb.size
  have hbe5 : Below w1.heap.size w1 l.w := hbd.out.trans (l.hb.mono (by omega))
  have hi5 := hi4.out.later l
  have hx5 := hx8.out.later l
  obtain ⟨w5, hw5⟩ : ∃ w5, l.w = w5 := ⟨_, rfl⟩
  have hf0 : ∀ l' : Later w5, l'.w.cell? ⟨b, off, none⟩ = some (.int .u8 (v0 : Nat)) := fun l' => l'.cell (by rw [← hw5]; exact hd0 l)
  have hf1 : ∀ l' : Later w5, l'.w.cell? ⟨b, off + 1, none⟩ = some (.int .u8 (v1 : Nat)) := fun l' => l'.cell (by rw [← hw5]; exact hd1 l)
  rw [hw5] at hblk2 hz5 hbe5 hi5 hx5 ⊢
  clear hd0 hd1 hd4 hd5 hd6 hd7 hw5
  have hg5 : ∀ (l' : Later w5) (o : Nat), l'.w.cell? ⟨w1.heap.size, o, none⟩ = _ := fun l' o => blk_cell (blk_below l'.hb (by omega) hblk2) o
  replace hblk2 := hide hblk2
  replace hbe5 := hide hbe5
  replace hi5 := hide hi5
  replace hx5 := hide hx5
  go_wp2_with fail
  refine wp_region_later (by kernel_rfl) (by kernel_rfl) ?_
  repeat (refine wpQuiet_step (fun K hK => ?_); go_simp; (try go_bits); first | (refine hK _ ?_; clear hK K) | (apply Exists.intro; refine ⟨fun l' => ?_, hK _ ?_⟩; (first | (go_at_call 25; refine (same_eq _ _ _ _ _ _ _ _ _ (xs.drop 8) _ (hi5.out.later l') (hx5.out.later l')).mono ?_; rintro e w' ⟨rfl, hb⟩; exact ⟨rfl, Later.step _ hb⟩) | (go_at_call 17; refine (awake_any _).mono ?_; rintro e w' ⟨rfl, hb⟩; exact ⟨rfl, Later.step _ hb⟩)); clear hK K))
  refine wpQuiet_nil ?_
  intro l'
  go_wp2_with fail
  go_ret
  exact ⟨by simp, (hb.out.trans (hbe5.out.mono hz)).trans (l'.hb.mono (by omega))⟩
theorem parses_walk (A : Option Addr) (n c : Nat) (xs : List UInt8) (P : Option Addr) (m d : Nat) (ps : List UInt8) (w : World) (hx : IsB w w.heap.size A n xs) (hnc : n ≤ c) (hc : c ≤ maxLen) (hp : IsB w w.heap.size P m ps) (hmd : m ≤ d) (hd : d ≤ maxLen) :
    Calls Try.prog 5 #[.slice A n c, .slice P m d] w fun e w' => e = .returned (.bool true) ∧ Below w.heap.size w w' := by
  have hx' := hx.take (m := min n 300) (by omega)
  have hp' := hp.take (m := min m 300) (by omega)
  by_cases h8 : min n 300 < 8
  · exact law_short A P n c _ m d _ w (by omega) (by omega) hnc hmd rfl rfl h8
  · by_cases hs : Sum.ones (Sum.tot false (ps.take (min m 300) ++ xs.take (min n 300))) = 65535
    · exact law_ok A P n c _ m d _ _ _ w hx' hp' (by omega) (by omega) hnc hmd rfl rfl (by omega) hs
    · exact law_sum A P n c _ m d _ _ _ w hx' hp' (by omega) (by omega) hnc hmd rfl rfl (by omega) hs
end Icmp
end Go.Proofs.Ytniieckjooahfaa
