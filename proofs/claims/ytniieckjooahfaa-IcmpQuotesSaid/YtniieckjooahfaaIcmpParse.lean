/- icmp.Parse and what its statement's text uses, by contract. Conditions: slices of bytes that read as lists. -/
import Derived.Test.YtniieckjooahfaaClone
import Derived.Test.YtniieckjooahfaaAt
import Derived.Test.YtniieckjooahfaaSumGo
import Derived.Test.YtniieckjooahfaaRegion
namespace Go.Proofs.Ytniieckjooahfaa
open Go.RowKit Go.ChangeShapes Go.WideShapes Go.ChangeAt Go.Deep
namespace Icmp
theorem cut_any (A : Option Addr) (n c : Nat) (w : World) (hn : n ≤ maxLen) (hc : n ≤ c) :
    Calls Try.prog 23 #[.slice A n c] w fun e w' => e = .returned (.slice A (min n 300) c) ∧ w = w' := by
  unfold maxLen at hn
  by_cases h : 300 < n
  · rw [show min n 300 = 300 by omega]
    go_enter Try.func23, Try.ntmps23
    go_wp2
    go_ret
    exact ⟨rfl, rfl⟩
  · rw [show min n 300 = n by omega]
    go_enter Try.func23, Try.ntmps23
    go_wp2
    go_ret
    exact ⟨rfl, rfl⟩
set_option maxHeartbeats 1000000 in
theorem same_eq (t k wd : Int) (A1 A2 : Option Addr) (n1 n2 c1 c2 : Nat) (xs : List UInt8) (w : World) (h1 : IsB w w.heap.size A1 n1 xs) (h2 : IsB w w.heap.size A2 n2 xs) :
    Calls Try.prog 25 #[.agg #[.int .i64 t, .int .i64 k, .int .u32 wd, .slice A1 n1 c1], .agg #[.int .i64 t, .int .i64 k, .int .u32 wd, .slice A2 n2 c2]] w fun e w' => e = .returned (.bool true) ∧ Below w.heap.size w w' := by
  have s1 := (((h1.alloc (.cells #[.int .i64 t, .int .i64 k, .int .u32 wd, .slice A1 n1 c1] 39)).alloc (.cells #[.int .i64 t, .int .i64 k, .int .u32 wd, .slice A2 n2 c2] 39))).str c1
  have s2 := (((h2.alloc (.cells #[.int .i64 t, .int .i64 k, .int .u32 wd, .slice A1 n1 c1] 39)).alloc (.cells #[.int .i64 t, .int .i64 k, .int .u32 wd, .slice A2 n2 c2] 39))).str c2
  go_enter Try.func25, Try.ntmps25
  go_wp2
  go_ret
  exact ⟨by simp, ((Below.refl _ _).alloc (Nat.le_refl _) _).alloc (by simp) _⟩
/-- What a message is that bytes of 8 at least are. -/
def msgV (xs : List UInt8) (A : Option Addr) (m c : Nat) : Value := .agg #[.int .i64 ((xs.getD 0 0).toNat : Nat), .int .i64 ((xs.getD 1 0).toNat : Nat), .int .u32 (beN xs 4 4 : Nat), .slice A m c]
def msg0 : Value := .agg #[.int .i64 0, .int .i64 0, .int .u32 0, .slice none 0 0]
theorem parse_short (A P : Option Addr) (n c m d : Nat) (w : World) (hn : n < 8) :
    Calls Try.prog 24 #[.slice A n c, .slice P m d] w fun e w' => e = .returned (.tuple #[msg0, .int .i64 2]) ∧ Below w.heap.size w w' := by
  go_enter Try.func24, Try.ntmps24
  go_wp2
  exact bodyPost_ret (v := .tuple #[msg0, .int .i64 2]) (by simp [results, Try.results24, go_sem, msg0]) rfl ⟨rfl, (Below.refl _ _).alloc (Nat.le_refl _) _⟩
theorem isP_two {w : World} (b : Nat) (hb : w.heap.size = b) {t : TypeId} {A P : Option Addr} {n c m d : Nat} {xs ps : List UInt8} (hx : IsB w w.heap.size A n xs) (hp : IsB w w.heap.size P m ps) (hn : n ≤ maxLen) (hm : m ≤ maxLen) :
    Sum.IsP (w.alloc (.cells #[.slice P m d, .slice A n c] t)) (w.alloc (.cells #[.slice P m d, .slice A n c] t)).heap.size (some ⟨b, 0, none⟩) 2 [⟨P, d, ps⟩, ⟨A, c, xs⟩] := by
  have e1 := hx.1
  have e2 := hp.1
  subst e1 e2 hb
  refine ⟨rfl, fun _ => ⟨w.heap.size, 0, rfl, by simp, fun i hi => ?_⟩, fun p hmem => ?_⟩
  · rw [blk_cell (blk_new _ _ _) (0 + i)]
    have hi' : i = 0 ∨ i = 1 := by simp at hi; omega
    rcases hi' with rfl | rfl <;> rfl
  · simp only [List.mem_cons, List.not_mem_nil, or_false] at hmem
    rcases hmem with rfl | rfl
    · exact ⟨hp.alloc _, hm⟩
    · exact ⟨hx.alloc _, hn⟩
set_option maxHeartbeats 1000000 in
theorem parse_sum (A P : Option Addr) (n c m d : Nat) (xs ps : List UInt8) (w : World) (hx : IsB w w.heap.size A n xs) (hp : IsB w w.heap.size P m ps) (hn : 8 ≤ n) (hnm : n ≤ maxLen) (hm : m ≤ maxLen) (hs : Sum.ones (Sum.tot false (ps ++ xs)) ≠ 65535) :
    Calls Try.prog 24 #[.slice A n c, .slice P m d] w fun e w' => e = .returned (.tuple #[msg0, .int .i64 13]) ∧ Below w.heap.size w w' := by
  have hx1 := hx.alloc (.cells #[.int .i64 0, .int .i64 0, .int .u32 0, .slice none 0 0] 39)
  have hp1 := hp.alloc (.cells #[.int .i64 0, .int .i64 0, .int .u32 0, .slice none 0 0] 39)
  have hps := isP_two (w.heap.size + 1) (by simp) (t := 35) (c := c) (d := d) hx1 hp1 hnm hm
  have hr : decide (Sum.ones (Sum.tot false (Sum.flat [⟨P, d, ps⟩, ⟨A, c, xs⟩])) = 65535) = false := by simpa [Sum.flat] using hs
  replace hps := hide hps
  replace hr := hide hr
  replace hx := hide hx
  replace hp := hide hp
  replace hx1 := hide hx1
  replace hp1 := hide hp1
  unfold maxLen at hnm
  go_enter Try.func24, Try.ntmps24
  go_wp2_with (go_at_call 72; refine (Sum.right_any _ _ _ _ _ hps.out (by unfold maxLen; omega) false hr.out).mono ?_; rintro e w' ⟨rfl, rfl⟩)
  exact bodyPost_ret (v := .tuple #[msg0, .int .i64 13]) (by simp [results, Try.results24, go_sem, msg0]) rfl ⟨rfl, ((Below.refl _ _).alloc (Nat.le_refl _) _).alloc (by simp) _⟩
set_option maxHeartbeats 2000000 in
theorem parse_ok (A P : Option Addr) (n c m d : Nat) (xs ps : List UInt8) (w : World) (hx : IsB w w.heap.size A n xs) (hp : IsB w w.heap.size P m ps) (hn : 8 ≤ n) (hnc : n ≤ c) (hnm : n ≤ 1099511627776) (hm : m ≤ maxLen) (hs : Sum.ones (Sum.tot false (ps ++ xs)) = 65535) :
    Calls Try.prog 24 #[.slice A n c, .slice P m d] w fun e w' => ∃ A' m' c', e = .returned (.tuple #[msgV xs A' m' c', .int .i64 0]) ∧ IsB w' w'.heap.size A' m' (xs.drop 8) ∧ m' ≤ c' ∧ c' ≤ maxLen ∧ Below w.heap.size w w' := by
  have hx1 := hx.alloc (.cells #[.int .i64 0, .int .i64 0, .int .u32 0, .slice none 0 0] 39)
  have hp1 := hp.alloc (.cells #[.int .i64 0, .int .i64 0, .int .u32 0, .slice none 0 0] 39)
  have hx2 := hx1.alloc (.cells #[.slice P m d, .slice A n c] 35)
  have hps := isP_two (w.heap.size + 1) (by simp) (t := 35) (c := c) (d := d) hx1 hp1 (by unfold maxLen; omega) hm
  have hr : decide (Sum.ones (Sum.tot false (Sum.flat [⟨P, d, ps⟩, ⟨A, c, xs⟩])) = 65535) = true := by simpa [Sum.flat] using hs
  obtain ⟨b, off, v0, rfl, hbl, hv0, hv0l, hc0⟩ := hx2.byte (i := 0) (by omega)
  obtain ⟨v1, hv1, hv1l, hc1⟩ := hx2.byteAt (i := 1) (by omega)
  have hbe := Octet.beN_bd8 xs 4 4 (by omega)
  have hbe4 : beN xs 4 4 < 4294967296 := beN_lt xs 4 4
  rw [Nat.add_zero] at hc0
  replace hps := hide hps
  replace hr := hide hr
  replace hs := hide hs
  replace hx := hide hx
  replace hp := hide hp
  replace hx1 := hide hx1
  replace hx2 := hide hx2
  replace hp1 := hide hp1
  replace hv0 := hide hv0
  replace hv1 := hide hv1
  replace hbe := hide hbe
  go_enter Try.func24, Try.ntmps24
  go_wp2_with (go_at_call 72; refine (Sum.right_any _ _ _ _ _ hps.out (by unfold maxLen; omega) true hr.out).mono ?_; rintro e w' ⟨rfl, rfl⟩)
  obtain ⟨w2, hw2⟩ : ∃ w2, ((w.alloc (.cells #[.int .i64 0, .int .i64 0, .int .u32 0, .slice none 0 0] 39)).alloc (.cells #[.slice P m d, .slice (some ⟨b, off, none⟩) n c] 35)) = w2 := ⟨_, rfl⟩
  have hb2 : Below w.heap.size w w2 := hw2 ▸ ((Below.refl _ _).alloc (Nat.le_refl _) _).alloc (by simp) _
  have hg2 : w2.heap[w.heap.size]? = some (.cells #[.int .i64 0, .int .i64 0, .int .u32 0, .slice none 0 0] 39 (0, 0)) := hw2 ▸ blk_old _ (by simp) (blk_new _ _ _)
  have hlt2 : w.heap.size < w2.heap.size := by rw [← hw2]; simp; omega
  rw [hw2] at hc0 hc1 hx2 ⊢
  clear hw2 hps hx1 hp1
  replace hb2 := hide hb2
  have hd0 : ∀ l : Later w2, l.w.cell? ⟨b, off, none⟩ = some (.int .u8 (v0 : Nat)) := fun l => l.cell hc0
  have hd1 : ∀ l : Later w2, l.w.cell? ⟨b, off + 1, none⟩ = some (.int .u8 (v1 : Nat)) := fun l => l.cell hc1
  clear hc0 hc1
  have hj0 : 0 < n := by omega
  have hj1 : 1 < n := by omega
  have hi0 : (0 : Int) < (n : Int) := by omega
  have hi1 : (1 : Int) < (n : Int) := by omega
  have hi8 : (8 : Int) ≤ (n : Int) := by omega
  obtain ⟨A8, hA8⟩ : ∃ A8, (if c = 8 then some (⟨b, off, none⟩ : Addr) else some ⟨b, off + 8, none⟩) = A8 := ⟨_, rfl⟩
  have hx8 : IsB w2 w2.heap.size A8 (n - 8) (xs.drop 8) := by
    have h8 := hx2.out.cut (k := 8) (m := n) (cap := c) (by omega) (Nat.le_refl _) hnc
    rw [List.take_of_length_le (by rw [hx2.out.1]; omega)] at h8
    rw [← hA8]
    exact h8
  replace hx8 := hide hx8
  refine wp_region_L (by kernel_rfl) ?_
  refine wpE_seg 0 13 (fuel := 4) (by kernel_rfl) (fun d _ _ _ _ h => by cases d <;> exact h) (by kernel_rfl) (by kernel_rfl) ?_
  simp only [List.drop_zero, List.take_succ_cons, List.take_zero]
  repeat (refine wpQE_step (fun K hK => ?_); go_simp; (try go_bits); first | (refine hK _ ?_; clear hK K) | (apply Exists.intro; refine ⟨fun l => ?_, hK _ ?_⟩; (go_at_call 73; refine (Octet.at_lit _ _ 4 4 rfl rfl _ _ _ xs _ (IsB.later hx2.out l) (by unfold maxLen; omega) (by omega) (by omega)).mono ?_; rintro e w' ⟨rfl, rfl⟩; exact ⟨rfl, lt_refl _⟩); clear hK K))
  refine wpQE_nil ?_
  refine wpE_step 13 (fuel := 3) rfl (by kernel_rfl) (fun l K hK => ?_)
  go_simp
  go_at_call 74
  refine (clone_any _ _ _ (xs.drop 8) _ ?_ (by omega)).mono ?_
  · exact IsB.later hx8.out l
  rintro e w3 ⟨v, rfl, hown, hb3⟩
  refine hK _ _ hb3 ?_
  clear hK K
  obtain ⟨A', c', rfl, hc', hm', hi'⟩ := hown.form
  refine wpE_seg 14 1 (fuel := 2) (by kernel_rfl) (fun d _ _ _ _ h => by cases d <;> exact h) (by kernel_rfl) (by kernel_rfl) ?_
  simp only [List.drop_succ_cons, List.drop_zero, List.take_succ_cons, List.take_zero]
  repeat (refine wpQE_step (fun K hK => ?_); go_simp; (try go_bits); first | (refine hK _ ?_; clear hK K))
  refine wpQE_nil ?_
  refine wpE_end (by kernel_rfl) (fun l2 => ?_)
  have hg3 : l2.w.heap[w.heap.size]? = some (.cells #[.int .i64 0, .int .i64 0, .int .u32 0, .slice none 0 0] 39 (0, 0)) :=
    blk_below l2.hb (Nat.lt_of_lt_of_le hlt2 (Nat.le_trans l.hb.size hb3.size)) (blk_below hb3 (Nat.lt_of_lt_of_le hlt2 l.hb.size) (blk_below l.hb hlt2 hg2))
  have hcg := blk_cell hg3
  have hfg := blk_free hg3
  have hb4 : Below w.heap.size w l2.w := ((hb2.out.trans (l.hb.mono (by omega))).trans (hb3.mono (Nat.le_trans (Nat.le_of_lt hlt2) l.hb.size))).trans (l2.hb.mono (Nat.le_trans (Nat.le_of_lt hlt2) (Nat.le_trans l.hb.size hb3.size)))
  replace hg3 := hide hg3
  replace hb4 := hide hb4
  refine wpT_step 15 rfl (by kernel_rfl) (fun K hK => ?_)
  go_simp
  refine hK _ _ ?_
  clear hK K
  refine wpT_step 16 rfl (by kernel_rfl) (fun K hK => ?_)
  go_simp
  refine hK _ _ ?_
  clear hK K
  refine wpT_done (by kernel_rfl) ?_ 0
  go_wp2
  have hown4 := hown.below l2.hb
  have hgr := grown_set (g := w.heap.size) (grown_set (grown_set (grown_set (grown_refl l2.w _) (p := ⟨w.heap.size, 0, none⟩) rfl (.int .i64 (v0 : Nat))) (p := ⟨w.heap.size, 1, none⟩) rfl (.int .i64 (v1 : Nat))) (p := ⟨w.heap.size, 2, none⟩) rfl (.int .u32 (beN xs 4 4 : Nat))) (p := ⟨w.heap.size, 3, none⟩) rfl (.slice A' (xs.drop 8).length c')
  have hown5 := hown4.kept hgr (by
    rcases hob : (Value.slice A' (xs.drop 8).length c').ownBlock with _ | k
    · exact .inl rfl
    · right
      intro e
      have h1 := (hown.lt k hob).1
      have h2 := l.hb.size
      cases e
      omega)
  obtain ⟨_, h5, h6, h7⟩ := hown5.reads
  simp only [List.length_drop] at h5 h7
  have hmv : msgV xs A' (xs.length - 8) c' = .agg #[.int .i64 (v0 : Nat), .int .i64 (v1 : Nat), .int .u32 (beN xs 4 4 : Nat), .slice A' (xs.length - 8) c'] := by unfold msgV; rw [hv0.out, hv1.out]
  refine bodyPost_ret (v := .tuple #[.agg #[.int .i64 (v0 : Nat), .int .i64 (v1 : Nat), .int .u32 (beN xs 4 4 : Nat), .slice A' (xs.length - 8) c'], .int .i64 0]) (by simp [results, Try.results24, go_sem, hcg]) rfl ⟨A', _, c', by rw [hmv], ?_, h5, h6, ?_⟩
  · simpa only [List.length_drop] using h7
  · exact (((hb4.out.setCell (p := ⟨w.heap.size, 0, none⟩) (Nat.le_refl _) _).setCell (p := ⟨w.heap.size, 1, none⟩) (Nat.le_refl _) _).setCell (p := ⟨w.heap.size, 2, none⟩) (Nat.le_refl _) _).setCell (p := ⟨w.heap.size, 3, none⟩) (Nat.le_refl _) _
end Icmp
end Go.Proofs.Ytniieckjooahfaa
