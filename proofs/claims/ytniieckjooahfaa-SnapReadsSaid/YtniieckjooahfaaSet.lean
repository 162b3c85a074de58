/- octet.Set where the number lies within: the bytes with that number at its place, in a row of the call's own. Conditions: 1 to 8 bytes within, sizes below 2^39. -/
import Derived.Test.YtniieckjooahfaaPut
import Derived.Test.YtniieckjooahfaaRegion
import Derived.Laws.CopyOwn
namespace Go.Proofs.Ytniieckjooahfaa
open Go.RowKit Go.ChangeShapes Go.WideShapes Go.ChangeAt Go.Deep
def setB (xs : List UInt8) (p : Nat) (ys : List UInt8) : List UInt8 := xs.take p ++ (ys ++ xs.drop (p + ys.length))
theorem setB_length (xs : List UInt8) (p : Nat) (ys : List UInt8) (h : p + ys.length ≤ xs.length) : (setB xs p ys).length = xs.length := by simp [setB]; omega
theorem OwnB.row {w : World} {base : Nat} {A : Option Addr} {n c : Nat} {xs : List UInt8} (h : OwnB w base (.slice A n c) xs) (hn : 0 < n) :
    ∃ g cur, A = some ⟨g, 0, none⟩ ∧ base ≤ g ∧ w.heap[g]? = some (.cells (List.toArray cur) 5 (0, 0)) ∧ cur.length = c ∧ cur.take n = xs.map u8v ∧ n ≤ c ∧ c ≤ maxLen ∧ xs.length = n := by
  have hl := h.reads.1
  rcases h.2 with ⟨e, _⟩ | ⟨g, cap, cur, e, hg, hh, hn', hm, hs, ht⟩
  · cases e
    omega
  · cases e
    exact ⟨g, cur.toList, rfl, hg, by simpa using hh, by simpa using hs, by simpa [hl] using ht, hn', hm, hl⟩
theorem own_of_row {w : World} {base g n c : Nat} {cur : List Value} {xs : List UInt8} (hg : base ≤ g) (hh : w.heap[g]? = some (.cells cur.toArray 5 (0, 0))) (hc : cur.length = c) (ht : cur.take n = xs.map u8v) (hn : n ≤ c) (hm : c ≤ maxLen) (hl : xs.length = n) :
    OwnB w base (.slice (some ⟨g, 0, none⟩) n c) xs := by
  subst hl
  exact ⟨by simp, .inr ⟨g, c, cur.toArray, rfl, hg, hh, hn, hm, by simpa using hc, by simpa using ht⟩⟩
theorem splice_take (cur : List Value) (xs ys : List UInt8) (n p : Nat) (ht : cur.take n = xs.map u8v) (_hn : n ≤ cur.length) (hl : xs.length = n) (h : p + ys.length ≤ n) : (splice cur p (ys.map u8v)).take n = (setB xs p ys).map u8v := by
  have hc : cur = xs.map u8v ++ cur.drop n := by rw [← ht, List.take_append_drop]
  have e1 : cur.take p = (xs.take p).map u8v := by
    rw [hc, List.take_append_of_le_length (by rw [List.length_map]; omega), List.map_take]
  have e2 : cur.drop (p + ys.length) = (xs.drop (p + ys.length)).map u8v ++ cur.drop n := by
    conv => lhs; rw [hc]
    rw [List.drop_append_of_le_length (by rw [List.length_map]; omega), List.map_drop]
  unfold splice setB
  rw [List.length_map, e1, e2, List.map_append, List.map_append, ← List.append_assoc, ← List.append_assoc, ← List.append_assoc]
  rw [List.take_append_of_le_length (by simp; omega), List.take_of_length_le (by simp; omega)]
set_option maxHeartbeats 2000000 in
theorem set_in (A : Option Addr) (n c : Nat) (xs : List UInt8) (p N k : Nat) (pi Ni ki : Int) (hpi : pi = (p : Int)) (hNi : Ni = (N : Int)) (hki : ki = (k : Int)) (w : World) (hx : IsB w w.heap.size A n xs) (hn : n ≤ 549755813888) (hp : p + k ≤ n) (hk : k ≤ 8) (hk0 : 0 < k) (hN : N < 18446744073709551616) :
    Calls Try.prog 80 #[.slice A n c, .int .i64 pi, .int .u64 Ni, .int .i64 ki] w fun e w' => ∃ v, e = .returned v ∧ OwnB w' w.heap.size v (setB xs p (beB N k)) ∧ Below w.heap.size w w' := by
  subst hpi hNi hki
  go_enter Try.func80, Try.ntmps80
  go_wp2_with (at_builtin; refine wpl_src_bv rfl _ _ rfl w.heap.size (.slice none 0 0) [] xs A n c w.heap.size rfl rfl (OwnB.nil _ _) hx (Nat.le_refl _) ?_ ?_)
  · simp; omega
  intro v1 w1 hown1 hg1
  have hb1 := hg1.belowNil
  obtain ⟨A1, c1, rfl, hc1, hm1, hi1⟩ := hown1.form
  rw [hx.1] at hown1 hc1 hi1 ⊢
  obtain ⟨g, cur, rfl, hgb, hh, hcl, htk, _, _, hxl⟩ := hown1.row (by omega)
  have i1 : (p : Int) ≤ (n : Int) := by omega
  have i2 : (p : Int) ≤ (n : Int) - (k : Int) := by omega
  have i3 : (k : Int) ≤ 8 := by omega
  replace hown1 := hide hown1
  replace hg1 := hide hg1
  replace hb1 := hide hb1
  replace hi1 := hide hi1
  replace hh := hide hh
  replace hcl := hide hcl
  replace htk := hide htk
  replace hxl := hide hxl
  replace hx := hide hx
  have hne : ¬ c1 = p := by omega
  go_wp2_with fail
  refine wp_region_L (by kernel_rfl) ?_
  refine wpE_seg 0 5 (fuel := 2) (by kernel_rfl) (fun d _ _ _ _ h => by cases d <;> exact h) (by kernel_rfl) (by kernel_rfl) ?_
  simp only [List.drop_zero, List.take_succ_cons, List.take_zero]
  repeat (refine wpQE_step (fun K hK => ?_); go_simp; (try go_bits); refine hK _ ?_; clear hK K)
  refine wpQE_nil ?_
  refine wpE_step 5 (fuel := 1) rfl (by kernel_rfl) (fun l K hK => ?_)
  go_simp
  go_at_call 79
  refine (put_lit _ _ N k rfl rfl l.w.heap.size _ [] _ (OwnB.nil _ _) (Nat.le_refl _) hN hk (by simp)).mono ?_
  rintro e w3 ⟨v2, rfl, hown2, hg2⟩
  have hb2 := hg2.belowNil
  refine hK _ _ hb2 ?_
  clear hK K
  obtain ⟨A2, c2, rfl, hc2, hm2, hi2⟩ := hown2.form
  simp only [List.nil_append, beB_length] at hi2 hc2 ⊢
  refine wpE_end (by kernel_rfl) (fun l2 => ?_)
  refine wpT_step 6 rfl (by kernel_rfl) (fun K hK => ?_)
  have hi4 := hi2.later l2
  obtain ⟨b2, off2, rfl, hbl2, hcs2⟩ := hi4.vals.2 (by omega)
  have hz1 := hg1.out.grown.size
  have hgl : g < w1.heap.size := (Array.getElem?_eq_some_iff.1 hh.out).1
  have hh4 : l2.w.heap[g]? = some (.cells cur.toArray 5 (0, 0)) := blk_below l2.hb (by have := l.hb.size; have := hb2.size; omega) (blk_below hb2 (by have := l.hb.size; omega) (blk_below l.hb hgl hh.out))
  have hb4 : Below w.heap.size w l2.w := ((hb1.out.trans (l.hb.mono hz1)).trans (hb2.mono (by have := l.hb.size; omega))).trans (l2.hb.mono (by have := l.hb.size; have := hb2.size; omega))
  refine step_copy_splice rfl _ _ _ _ rfl 5 Try.underlying35 (by kernel_rfl) _ _ _ _ _ _ rfl rfl g p cur 5 hh4 ((beB N k).map u8v) ?_ ?_ ?_ (u8v_one _) w.heap.size w hb4 hgb ?_
  · rw [List.length_map, beB_length]
    exact (Nat.min_eq_left (by omega)).symm
  · intro _
    refine ⟨rfl, _, rfl, fun j v hj => ?_⟩
    obtain ⟨hj', rfl⟩ := List.getElem?_eq_some_iff.1 hj
    rw [show Addr.add ⟨b2, off2, none⟩ j = (⟨b2, off2 + j, none⟩ : Addr) by unfold Addr.add; split <;> simp_all]
    exact hcs2 j hj'
  · rw [List.length_map, beB_length, hcl.out]; omega
  intro w5 hh5 hb5
  refine hK _ _ ?_
  clear hK K
  refine wpT_done (by kernel_rfl) ?_ 0
  replace hcs2 := hide hcs2
  replace hh4 := hide hh4
  replace hb4 := hide hb4
  replace hb5 := hide hb5
  go_wp2_with fail
  go_ret
  refine ⟨_, rfl, own_of_row hgb hh5.out ?_ (splice_take cur xs (beB N k) n p htk.out (by rw [hcl.out]; exact hc1) hxl.out (by rw [beB_length]; exact hp)) hc1 hm1 (by rw [setB_length _ _ _ (by rw [beB_length, hxl.out]; exact hp), hxl.out]), hb5.out⟩
  rw [length_splice _ _ _ (by rw [List.length_map, beB_length, hcl.out]; omega), hcl.out]
end Go.Proofs.Ytniieckjooahfaa
