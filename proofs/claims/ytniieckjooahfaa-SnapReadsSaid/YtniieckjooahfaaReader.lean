/- octet.Reader, by contract: a pointer to a slice of bytes that reads as a list, and to the first error. Conditions: a reader whose bytes lie below it. -/
import Derived.Test.YtniieckjooahfaaAt
import Derived.Test.YtniieckjooahfaaSnapPlain
import Derived.Test.YtniieckjooahfaaMem
import Derived.Test.YtniieckjooahfaaRegionS
namespace Go.Proofs.Ytniieckjooahfaa
open Go.RowKit Go.ChangeShapes Go.WideShapes Go.ChangeAt Go.Deep
namespace Snap
/-- A reader at block g: what is left lies below block B. -/
def Rd (w : World) (g B : Nat) (s : St) : Prop :=
  ∃ A n c, w.heap[g]? = some (.cells #[.slice A n c, .int .i64 s.2] 153 (0, 0)) ∧ IsB w B A n s.1 ∧ n ≤ c ∧ c ≤ maxLen
theorem Rd.lt {w : World} {g B : Nat} {s : St} (h : Rd w g B s) : g < w.heap.size := by
  obtain ⟨A, n, c, h, _⟩ := h
  rcases Nat.lt_or_ge g w.heap.size with h1 | h1
  · exact h1
  · rw [Array.getElem?_eq_none h1] at h; cases h
theorem Rd.later {w w' : World} {g B : Nat} {s : St} (h : Rd w g B s) (hB : B ≤ g) (hb : Below (g + 1) w w') : Rd w' g B s := by
  obtain ⟨A, n, c, h, hx, h1, h2⟩ := h
  exact ⟨A, n, c, blk_below hb (by omega) h, hx.below (hb.mono (by omega)), h1, h2⟩
theorem Rd.other {w w' : World} {g g' B : Nat} {s : St} (h : Rd w g B s) (hB : B ≤ g) (hg : w.grownBy w' (some g')) (hne : g < g') : Rd w' g B s := h.later hB (by
  refine ⟨hg.os, hg.tape, hg.output, hg.size, fun k hk => ?_⟩
  have := h.lt
  exact hg.block k (by omega) (by intro e; cases e; omega))
theorem store_at {w : World} {g : Nat} {t : TypeId} {cs : Array Value} (h : w.heap[g]? = some (.cells cs t (0, 0))) (i : Nat) (v : Value) :
    ∃ w', w.setCell ⟨g, i, none⟩ v = w' ∧ w'.heap[g]? = some (.cells (cs.setIfInBounds i v) t (0, 0)) ∧ w.grownBy w' (some g) :=
  ⟨_, rfl, blk_set h i v, grown_set (grown_refl _ _) rfl _⟩
set_option maxHeartbeats 1000000 in
theorem fail_any (g B : Nat) (e : Int) (s : St) (w : World) (h : Rd w g B s) (hB : B ≤ g) :
    Calls Try.prog 85 #[.pointer (some ⟨g, 0, none⟩), .int .i64 e] w fun x w' => x = .returned (.tuple #[]) ∧ Rd w' g B (failS e s) ∧ w.grownBy w' (some g) := by
  obtain ⟨A, n, c, h, hx, hnc, hcm⟩ := h
  have hcg := blk_cell h
  have hfr := blk_free h
  by_cases h0 : s.2 = 0
  · have hf : failS e s = (s.1, e) := by unfold failS; rw [if_pos h0]
    rw [h0] at h hcg
    rw [hf]
    obtain ⟨w2, e2, h2, g2⟩ := store_at h 1 (.int .i64 e)
    have hx2 := hx.below (below_grown g2 (B := B) (by
      rcases Nat.lt_or_ge g w.heap.size with h1 | h1
      · omega
      · rw [Array.getElem?_eq_none h1] at h; cases h) hB)
    replace h := hide h
    replace h2 := hide h2
    replace g2 := hide g2
    replace hx := hide hx
    replace hx2 := hide hx2
    clear hf h0
    go_enter Try.func85, Try.ntmps85
    go_wp2_with fail
    refine bodyPost_end (v := .tuple #[]) (by simp [results, Try.results85, go_sem]) rfl ⟨rfl, ⟨A, n, c, h2.out, hx2.out, hnc, hcm⟩, g2.out⟩
  · have hf : failS e s = s := by unfold failS; rw [if_neg h0]
    rw [hf]
    have t0 : (s.2 == 0) = false := by simpa using h0
    clear hf h0 hfr
    replace h := hide h
    replace hx := hide hx
    go_enter Try.func85, Try.ntmps85
    go_wp2_with fail
    refine bodyPost_end (v := .tuple #[]) (by simp [results, Try.results85, go_sem]) rfl ⟨rfl, ⟨A, n, c, h.out, hx.out, hnc, hcm⟩, grown_refl _ _⟩
set_option maxHeartbeats 2000000 in
theorem raw_any (g B k : Nat) (s : St) (w : World) (h : Rd w g B s) (hB : B ≤ g) (hk : k ≤ 4611686018427387904) :
    Calls Try.prog 84 #[.pointer (some ⟨g, 0, none⟩), .int .i64 (k : Int)] w fun x w' => ∃ A n c, x = .returned (.slice A n c) ∧ IsB w' B A n (rawX k s) ∧ n ≤ c ∧ c ≤ maxLen ∧ Rd w' g B (rawS k s) ∧ w.grownBy w' (some g) := by
  have hlt := h.lt
  obtain ⟨A, n, c, hg, hx, hnc, hcm⟩ := h
  have hcm' := hcm
  unfold maxLen at hcm'
  have hsn := hx.1
  have hcg := blk_cell hg
  have t0 : ¬ (k : Int) < 0 := by omega
  by_cases hlk : n < k
  · have hS : rawS k s = failS 2 s := by unfold rawS; rw [if_pos (by omega)]
    have hX : rawX k s = [] := by unfold rawX; rw [if_pos (by omega)]
    rw [hS, hX]
    have hbad : (failS 2 s).2 ≠ 0 := failS_ok (by omega)
    have hF := fail_any g B 2 s w ⟨A, n, c, hg, hx, hnc, hcm⟩ hB
    have t1 : (n : Int) < (k : Int) := by omega
    replace hF := hide hF
    replace hg := hide hg
    replace hx := hide hx
    replace hS := hide hS
    replace hX := hide hX
    replace hbad := hide hbad
    go_enter Try.func84, Try.ntmps84
    go_wp2_with fail
    refine hF.out.mono ?_
    rintro e w2 ⟨rfl, hr2, g2⟩
    have hr := hr2
    obtain ⟨A2, n2, c2, hg2, hx2, _, _⟩ := hr2
    have hcg2 := blk_cell hg2
    obtain ⟨e2, he2⟩ : ∃ e2, (failS 2 s).2 = e2 := ⟨_, rfl⟩
    have hbad2 := hbad.out
    rw [he2] at hbad2 hcg2
    have t2 : (e2 == 0) = false := by simpa using hbad2
    clear hcg hbad2 he2
    replace hr := hide hr
    replace g2 := hide g2
    replace hg2 := hide hg2
    replace hx2 := hide hx2
    go_wp2_with fail
    go_ret
    exact ⟨none, 0, 0, rfl, IsB.nil _ _ _, Nat.le_refl _, by unfold maxLen; omega, hr.out, g2.out⟩
  · have t1 : ¬ (n : Int) < (k : Int) := by omega
    by_cases h0 : s.2 = 0
    · have hS : rawS k s = (s.1.drop k, 0) := by unfold rawS; rw [if_neg (by omega), if_neg (by simpa using h0)]
      have hX : rawX k s = s.1.take k := by unfold rawX; rw [if_neg (by omega), if_neg (by simpa using h0)]
      rw [hS, hX]
      rw [h0] at hg hcg
      have hfr := blk_free hg
      obtain ⟨A', hA'⟩ : ∃ A', (if c = k then A else A.map (·.add k)) = A' := ⟨_, rfl⟩
      obtain ⟨w2, e2, h2, g2⟩ := store_at hg 0 (.slice A' (n - k) (c - k))
      have hx2 := hx.below (below_grown g2 (B := B) (by omega) hB)
      have hX2 := hx2.take (m := k) (by omega)
      have hR2 := hx2.cut' (k := k) (m := n) (cap := c) hA'.symm (by omega) (Nat.le_refl _) hnc
      rw [List.take_of_length_le (by omega)] at hR2
      have hRd : Rd w2 g B (s.1.drop k, 0) := ⟨A', n - k, c - k, h2, hR2, by omega, by unfold maxLen; omega⟩
      rcases A with _ | ad
      · have hk0 : k = 0 := by
          rcases Nat.eq_zero_or_pos n with h3 | h3
          · omega
          · obtain ⟨_, _, e, _⟩ := hx.2 h3
            cases e
        subst hk0
        have hA0 : A' = none := by rw [← hA']; split <;> rfl
        subst hA0
        simp only [Nat.sub_zero] at e2
        clear h0 hS hX hA' hx hx2 hR2 h2
        replace hg := hide hg
        replace hX2 := hide hX2
        replace hRd := hide hRd
        replace g2 := hide g2
        go_enter Try.func84, Try.ntmps84
        go_wp2_with fail
        go_ret
        exact ⟨none, 0, 0, rfl, hX2.out, Nat.le_refl _, by unfold maxLen; omega, hRd.out, g2.out⟩
      · obtain ⟨b, off, sp⟩ := ad
        simp only [Option.map_some] at hA'
        clear h0 hS hX hx hx2 hR2 h2
        replace hg := hide hg
        replace hX2 := hide hX2
        replace hRd := hide hRd
        replace g2 := hide g2
        go_enter Try.func84, Try.ntmps84
        go_wp2_with fail
        go_ret
        exact ⟨_, k, k, rfl, hX2.out, Nat.le_refl _, by omega, hRd.out, g2.out⟩
    · have hS : rawS k s = s := by unfold rawS; rw [if_neg (by omega), if_pos h0]
      have hX : rawX k s = [] := by unfold rawX; rw [if_neg (by omega), if_pos h0]
      rw [hS, hX]
      have t2 : (s.2 == 0) = false := by simpa using h0
      have hRd : Rd w g B s := ⟨A, n, c, hg, hx, hnc, hcm⟩
      clear h0 hS hX
      replace hg := hide hg
      replace hx := hide hx
      replace hRd := hide hRd
      go_enter Try.func84, Try.ntmps84
      go_wp2_with fail
      go_ret
      exact ⟨none, 0, 0, rfl, IsB.nil _ _ _, Nat.le_refl _, by unfold maxLen; omega, hRd.out, grown_refl _ _⟩
theorem num_any (g B k : Nat) (s : St) (w : World) (h : Rd w g B s) (hB : B ≤ g) (hk : k ≤ 8) :
    Calls Try.prog 86 #[.pointer (some ⟨g, 0, none⟩), .int .i64 (k : Int)] w fun x w' => x = .returned (.int .u64 (numV k s : Nat)) ∧ Rd w' g B (rawS k s) ∧ w.grownBy w' (some g) := by
  have hlt := h.lt
  have hR := raw_any g B k s w h hB (by omega)
  have hXl := rawX_len k s
  replace hR := hide hR
  replace h := hide h
  go_enter Try.func86, Try.ntmps86
  go_wp2_with fail
  refine hR.out.mono ?_
  rintro e w2 ⟨A, n, c, rfl, hx, hnc, hcm, hr, g2⟩
  have hz := g2.size
  have hxn := hx.1
  have hn8 : n ≤ 8 := by omega
  have hA := Octet.at_lit 0 (n : Int) 0 n rfl rfl A n c (rawX k s) w2 (hx.more (by omega)) (by unfold maxLen; omega) (by omega) hn8
  have hv : numV k s = beN (rawX k s) 0 n := by unfold numV; rw [hxn]
  rw [← hv] at hA
  clear hxn hv hXl
  replace hr := hide hr
  replace g2 := hide g2
  replace hx := hide hx
  replace hA := hide hA
  rcases (by omega : n = 8 ∨ n < 8) with rfl | h8
  · go_wp2_with fail
    refine hA.out.mono ?_
    rintro e w3 ⟨rfl, rfl⟩
    go_wp2_with fail
    go_ret
    exact ⟨rfl, hr.out, g2.out⟩
  · have hmx : ¬ (0 : Int) ≤ (n : Int) - 8 := by omega
    go_wp2_with fail
    refine hA.out.mono ?_
    rintro e w3 ⟨rfl, rfl⟩
    go_wp2_with fail
    go_ret
    exact ⟨rfl, hr.out, g2.out⟩
theorem num_lit (ki : Int) (g B k : Nat) (hki : ki = (k : Int)) (s : St) (w : World) (h : Rd w g B s) (hB : B ≤ g) (hk : k ≤ 8) :
    Calls Try.prog 86 #[.pointer (some ⟨g, 0, none⟩), .int .i64 ki] w fun x w' => x = .returned (.int .u64 (numV k s : Nat)) ∧ Rd w' g B (rawS k s) ∧ w.grownBy w' (some g) := by
  subst hki
  exact num_any g B k s w h hB hk
theorem raw_lit (ki : Int) (g B k : Nat) (hki : ki = (k : Int)) (s : St) (w : World) (h : Rd w g B s) (hB : B ≤ g) (hk : k ≤ 4611686018427387904) :
    Calls Try.prog 84 #[.pointer (some ⟨g, 0, none⟩), .int .i64 ki] w fun x w' => ∃ A n c, x = .returned (.slice A n c) ∧ IsB w' B A n (rawX k s) ∧ n ≤ c ∧ c ≤ maxLen ∧ Rd w' g B (rawS k s) ∧ w.grownBy w' (some g) := by
  subst hki
  exact raw_any g B k s w h hB hk
theorem err_any (g B : Nat) (s : St) (w : World) (h : Rd w g B s) :
    Calls Try.prog 87 #[.pointer (some ⟨g, 0, none⟩)] w fun x w' => x = .returned (.int .i64 s.2) ∧ w = w' := by
  obtain ⟨A, n, c, h, hx, hnc, hcm⟩ := h
  have hcg := blk_cell h
  replace h := hide h
  replace hx := hide hx
  go_enter Try.func87, Try.ntmps87
  go_wp2_with fail
  go_ret
  exact ⟨rfl, rfl⟩
def leftN (s : St) : Nat := if s.2 = 0 then s.1.length else 0
theorem left_any (g B : Nat) (s : St) (w : World) (h : Rd w g B s) :
    Calls Try.prog 89 #[.pointer (some ⟨g, 0, none⟩)] w fun x w' => x = .returned (.int .i64 (leftN s : Nat)) ∧ w = w' := by
  obtain ⟨A, n, c, h, hx, hnc, hcm⟩ := h
  have hcg := blk_cell h
  have hxn := hx.1
  by_cases h0 : s.2 = 0
  · have hL : leftN s = n := by unfold leftN; rw [if_pos h0, hxn]
    rw [hL]
    rw [h0] at hcg
    clear h0 hxn hL
    replace h := hide h
    replace hx := hide hx
    go_enter Try.func89, Try.ntmps89
    go_wp2_with fail
    go_ret
    exact ⟨rfl, rfl⟩
  · have hL : leftN s = 0 := by unfold leftN; rw [if_neg h0]
    rw [hL]
    have t0 : (s.2 == 0) = false := by simpa using h0
    clear h0 hxn hL
    replace h := hide h
    replace hx := hide hx
    go_enter Try.func89, Try.ntmps89
    go_wp2_with fail
    go_ret
    exact ⟨rfl, rfl⟩
theorem reader_any (A : Option Addr) (n c : Nat) (xs : List UInt8) (w : World) (hx : IsB w w.heap.size A n xs) (hnc : n ≤ c) (hcm : c ≤ maxLen) :
    Calls Try.prog 83 #[.slice A n c] w fun x w' => x = .returned (.pointer (some ⟨w.heap.size, 0, none⟩)) ∧ Rd w' w.heap.size w.heap.size (xs, 0) ∧ Below w.heap.size w w' ∧ w'.heap.size = w.heap.size + 1 := by
  have hn := blk_new w 153 #[.slice A n c, .int .i64 0]
  have hb : Below w.heap.size w (w.alloc (.cells #[.slice A n c, .int .i64 0] 153)) := (Below.refl _ _).alloc (Nat.le_refl _) _
  have hz : (w.alloc (.cells #[.slice A n c, .int .i64 0] 153)).heap.size = w.heap.size + 1 := by simp
  have hx2 := hx.below hb
  obtain ⟨w2, hw2⟩ : ∃ w2, w.alloc (.cells #[.slice A n c, .int .i64 0] 153) = w2 := ⟨_, rfl⟩
  rw [hw2] at hn hb hz hx2
  replace hn := hide hn
  replace hb := hide hb
  replace hx := hide hx
  replace hx2 := hide hx2
  go_enter Try.func83, Try.ntmps83
  go_wp2_with fail
  go_ret
  exact ⟨rfl, ⟨A, n, c, hn.out, hx2.out, hnc, hcm⟩, hb.out, hz⟩
end Snap
end Go.Proofs.Ytniieckjooahfaa
