/- Sorting, plain: insertion and merge. No condition. -/
import Derived.Test.YtccmbnaakdffaaaDoorQPfxSorts7
import Derived.Test.YtccmbnaakdffaaaDoorQPfxSorts6
import Derived.Test.YtccmbnaakdffaaaDoorQPfxSorts4
import Derived.Test.YtccmbnaakdffaaaDoorQPfxSorts3
import Derived.Laws.CopyOwn
namespace Go.Proofs.YtccmbnaakdffaaaDoor
namespace Sort06
theorem Srt.sub {X : Nat → El} {a b a' b' : Nat} (h : Srt X a b) (h1 : a ≤ a') (h2 : b' ≤ b) : Srt X a' b' := fun i j hi hij hj => h i j (by omega) hij (by omega)
theorem Srt.congr {X Y : Nat → El} {a b : Nat} (h : Srt X a b) (he : ∀ k, a ≤ k → k < b → Y k = X k) : Srt Y a b := fun i j hi hij hj => by
  rw [he i hi (by omega), he j (by omega) hj]
  exact h i j hi hij hj
/-! ### Insertion -/
structure Ins (a i j : Nat) (X Y : Nat → El) : Prop where
  perm : PermOn a (i + 1) X Y
  le : a ≤ j
  hi : j ≤ i
  up : ∀ p q, a ≤ p → p < q → q ≤ i → p ≠ j → q ≠ j → R (Y p) (Y q)
  right : ∀ q, j < q → q ≤ i → R (Y j) (Y q)
  tag : ∀ p, a ≤ p → p ≤ i → p ≠ j → (Y p).t < (Y j).t
theorem Ins.start {a i b : Nat} {X Y : Nat → El} (hp : PermOn a i X Y) (hs : Srt Y a i) (hu : Up X a b) (hai : a ≤ i) (hib : i < b) : Ins a i i X Y := by
  refine ⟨hp.wide (Nat.le_refl _) hai (by omega), hai, Nat.le_refl _, fun p q h1 h2 h3 h4 h5 => hs p q h1 h2 (by omega), fun q h1 h2 => by omega, fun p h1 h2 h3 => ?_⟩
  rw [hp.out i (by omega)]
  exact hp.all (P := fun x => x.t < (X i).t) (fun k h4 h5 => hu k i h4 h5 hib) p h1 (by omega)
theorem Ins.step {a i j : Nat} {X Y : Nat → El} (h : Ins a i (j + 1) X Y) (haj : a ≤ j) (hk : kl (Y (j + 1)) (Y j)) : Ins a i j X (sw Y (j + 1) j) := by
  have hi := h.hi
  have e1 : sw Y (j + 1) j (j + 1) = Y j := by unfold sw; rw [if_pos rfl]
  have e2 : sw Y (j + 1) j j = Y (j + 1) := by unfold sw; rw [if_neg (by omega), if_pos rfl]
  have e3 : ∀ p, p ≠ j → p ≠ j + 1 → sw Y (j + 1) j p = Y p := fun p h1 h2 => by unfold sw; rw [if_neg h2, if_neg h1]
  refine ⟨h.perm.trans ?_, haj, by omega, ?_, ?_, ?_⟩
  · rw [sw_comm]
    exact (sw_perm Y j).wide haj (by omega) (by omega)
  · intro p q h1 h2 h3 h4 h5
    by_cases hp : p = j + 1
    · subst hp
      rw [e1, e3 q h5 (by omega)]
      exact h.up j q haj (by omega) h3 (by omega) (by omega)
    · by_cases hq : q = j + 1
      · subst hq
        rw [e1, e3 p h4 hp]
        exact h.up p j h1 (by omega) (by omega) hp (by omega)
      · rw [e3 p h4 hp, e3 q h5 hq]
        exact h.up p q h1 h2 h3 hp hq
  · intro q h1 h2
    rw [e2]
    by_cases hq : q = j + 1
    · subst hq
      rw [e1]
      exact R_of_kl hk
    · rw [e3 q (by omega) hq]
      exact h.right q (by omega) h2
  · intro p h1 h2 h3
    rw [e2]
    by_cases hp : p = j + 1
    · subst hp
      rw [e1]
      exact h.tag j haj (by omega) (by omega)
    · rw [e3 p h3 hp]
      exact h.tag p h1 h2 hp
theorem Ins.stop {a i j : Nat} {X Y : Nat → El} (h : Ins a i j X Y) (hk : j = a ∨ ¬ kl (Y j) (Y (j - 1))) : Srt Y a (i + 1) := by
  have hl := h.le
  intro p q h1 h2 h3
  by_cases hp : p = j
  · subst hp
    exact h.right q h2 (by omega)
  · by_cases hq : q = j
    · subst hq
      have hne : q ≠ a := by omega
      have hr : R (Y (q - 1)) (Y q) := R_of_not (hk.resolve_left hne) (h.tag (q - 1) (by omega) (by have := h.hi; omega) (by omega))
      by_cases hpq : p = q - 1
      · rw [hpq]; exact hr
      · exact (h.up p (q - 1) h1 (by omega) (by have := h.hi; omega) hp (by omega)).trans hr
    · exact h.up p q h1 h2 (by omega) hp hq
/-! ### One element goes into a sorted row -/
def mvR (X : Nat → El) (a k : Nat) : Nat → El := fun p => if a ≤ p ∧ p < k then X (p + 1) else if p = k then X a else X p
theorem mvR_zero (X : Nat → El) (a : Nat) : mvR X a a = X := by
  funext p
  unfold mvR
  repeat' split
  all_goals first | (exfalso; omega) | (congr 1; omega) | rfl
theorem mvR_succ (X : Nat → El) (a k : Nat) (h : a ≤ k) : sw (mvR X a k) k (k + 1) = mvR X a (k + 1) := by
  funext p
  unfold sw mvR
  repeat' split
  all_goals first | (exfalso; omega) | (congr 1; omega) | rfl
theorem mvR_perm (X : Nat → El) (a b : Nat) : ∀ d, a + d < b → PermOn a b X (mvR X a (a + d))
  | 0, _ => by rw [Nat.add_zero, mvR_zero]; exact PermOn.refl _ _ _
  | d + 1, h => by
    rw [← Nat.add_assoc, ← mvR_succ X a (a + d) (by omega)]
    exact (mvR_perm X a b d (by omega)).trans ((sw_perm _ _).wide (by omega) (by omega) (by omega))
theorem mvR_srt (X : Nat → El) {a b i : Nat} (hs : Srt X (a + 1) b) (h1 : a + 1 ≤ i) (h2 : i ≤ b) (hl : ∀ k, a + 1 ≤ k → k < i → R (X k) (X a)) (hr : ∀ k, i ≤ k → k < b → R (X a) (X k)) : Srt (mvR X a (i - 1)) a b := by
  intro p q hp hpq hq
  unfold mvR
  by_cases h3 : p < i - 1
  · rw [if_pos ⟨hp, h3⟩]
    by_cases h4 : q < i - 1
    · rw [if_pos ⟨by omega, h4⟩]; exact hs _ _ (by omega) (by omega) (by omega)
    · rw [if_neg (by omega)]
      by_cases h5 : q = i - 1
      · rw [if_pos h5]; exact hl _ (by omega) (by omega)
      · rw [if_neg h5]; exact (hl _ (by omega) (by omega)).trans (hr q (by omega) hq)
  · rw [if_neg (by omega), if_neg (by omega : ¬ (a ≤ q ∧ q < i - 1))]
    by_cases h4 : p = i - 1
    · rw [if_pos h4, if_neg (by omega)]; exact hr q (by omega) hq
    · rw [if_neg h4, if_neg (by omega)]; exact hs p q (by omega) hpq hq
def mvL (X : Nat → El) (m k : Nat) : Nat → El := fun p => if k < p ∧ p ≤ m then X (p - 1) else if p = k then X m else X p
theorem mvL_zero (X : Nat → El) (m : Nat) : mvL X m m = X := by
  funext p
  unfold mvL
  repeat' split
  all_goals first | (exfalso; omega) | (congr 1; omega) | rfl
theorem mvL_succ (X : Nat → El) (m k : Nat) (h : k + 1 ≤ m) : sw (mvL X m (k + 1)) (k + 1) k = mvL X m k := by
  funext p
  unfold sw mvL
  repeat' split
  all_goals first | (exfalso; omega) | (congr 1; omega) | rfl
theorem mvL_perm (X : Nat → El) (a m : Nat) : ∀ d, a + d ≤ m → PermOn a (m + 1) X (mvL X m (m - d))
  | 0, _ => by rw [Nat.sub_zero, mvL_zero]; exact PermOn.refl _ _ _
  | d + 1, h => by
    have e := mvL_succ X m (m - (d + 1)) (by omega)
    rw [show m - (d + 1) + 1 = m - d by omega] at e
    rw [← e, sw_comm]
    have hp := sw_perm (mvL X m (m - d)) (m - (d + 1))
    rw [show m - (d + 1) + 1 = m - d by omega] at hp
    exact (mvL_perm X a m d (by omega)).trans (hp.wide (by omega) (by omega) (by omega))
theorem mvL_srt (X : Nat → El) {a m i : Nat} (hs : Srt X a m) (h1 : a ≤ i) (h2 : i ≤ m) (hl : ∀ k, a ≤ k → k < i → R (X k) (X m)) (hr : ∀ k, i ≤ k → k < m → R (X m) (X k)) : Srt (mvL X m i) a (m + 1) := by
  intro p q hp hpq hq
  unfold mvL
  by_cases h3 : i < p
  · rw [if_pos ⟨h3, by omega⟩, if_pos ⟨by omega, by omega⟩]; exact hs _ _ (by omega) (by omega) (by omega)
  · rw [if_neg (by omega : ¬ (i < p ∧ p ≤ m))]
    by_cases h4 : p = i
    · rw [if_pos h4, if_pos ⟨by omega, by omega⟩]; exact hr _ (by omega) (by omega)
    · rw [if_neg h4]
      by_cases h5 : i < q
      · rw [if_pos ⟨h5, by omega⟩]; exact hs _ _ (by omega) (by omega) (by omega)
      · rw [if_neg (by omega)]
        by_cases h6 : q = i
        · rw [if_pos h6]; exact hl p hp (by omega)
        · rw [if_neg h6]; exact hs p q hp hpq (by omega)
/-! ### Merge -/
section
variable {X : Nat → El} {a m b s e : Nat}
structure Cut (X : Nat → El) (a m b s e : Nat) : Prop where
  h1 : a ≤ s
  h2 : s ≤ m
  h3 : m ≤ e
  h4 : e ≤ b
  s1 : Srt X a m
  s2 : Srt X m b
  tg : Tg X a m b
  hl : ∀ p q, a ≤ p → p < s → e ≤ q → q < b → R (X p) (X q)
  hr : ∀ p q, m ≤ p → p < e → s ≤ q → q < m → R (X p) (X q)
theorem rot1 {k : Nat} (h : k < s) (X : Nat → El) : rot X s m e k = X k := by unfold rot; rw [if_neg (by omega), if_neg (by omega)]
theorem rot2 {k : Nat} (h : s ≤ k) (h' : k < s + (e - m)) (X : Nat → El) : rot X s m e k = X (m + (k - s)) := by unfold rot; rw [if_pos ⟨h, h'⟩]
theorem rot3 {k : Nat} (h : s + (e - m) ≤ k) (h' : k < e) (X : Nat → El) : rot X s m e k = X (k - (e - m)) := by unfold rot; rw [if_neg (by omega), if_pos ⟨h, h'⟩]
theorem rot4 {k : Nat} (h2 : s ≤ m) (h3 : m ≤ e) (h : e ≤ k) (X : Nat → El) : rot X s m e k = X k := by unfold rot; rw [if_neg (by omega), if_neg (by omega)]
theorem Cut.pre1 (h : Cut X a m b s e) : Srt (rot X s m e) a s ∧ Srt (rot X s m e) s (s + (e - m)) ∧ Tg (rot X s m e) a s (s + (e - m)) := by
  have := h.h1; have := h.h2; have := h.h3; have := h.h4
  refine ⟨h.s1.sub (Nat.le_refl _) (by omega) |>.congr fun k _ hk => rot1 hk X, fun i j hi hij hj => ?_, fun i j hi hij hj hjb => ?_⟩
  · rw [rot2 hi (by omega), rot2 (by omega) hj]
    exact h.s2 _ _ (by omega) (by omega) (by omega)
  · rw [rot1 hij, rot2 hj hjb]
    exact h.tg _ _ hi (by omega) (by omega) (by omega)
theorem Cut.pre2 (h : Cut X a m b s e) : Srt (rot X s m e) (s + (e - m)) e ∧ Srt (rot X s m e) e b ∧ Tg (rot X s m e) (s + (e - m)) e b := by
  have := h.h1; have := h.h2; have := h.h3; have := h.h4
  refine ⟨fun i j hi hij hj => ?_, h.s2.sub (by omega) (Nat.le_refl _) |>.congr fun k hk _ => rot4 (by omega) (by omega) hk X, fun i j hi hij hj hjb => ?_⟩
  · rw [rot3 hi (by omega), rot3 (by omega) hj]
    exact h.s1 _ _ (by omega) (by omega) (by omega)
  · rw [rot3 hi hij, rot4 (by omega) (by omega) hj]
    exact h.tg _ _ (by omega) (by omega) (by omega) hjb
theorem Cut.over (h : Cut X a m b s e) : ∀ p q, a ≤ p → p < s + (e - m) → s + (e - m) ≤ q → q < b → R (rot X s m e p) (rot X s m e q) := by
  have := h.h1; have := h.h2; have := h.h3; have := h.h4
  intro p q h1 h2 h3 h4
  by_cases hp : p < s
  · rw [rot1 hp]
    by_cases hq : q < e
    · rw [rot3 h3 hq]; exact h.s1 _ _ h1 (by omega) (by omega)
    · rw [rot4 (by omega) (by omega) (by omega)]; exact h.hl p q h1 hp (by omega) h4
  · rw [rot2 (by omega) h2]
    by_cases hq : q < e
    · rw [rot3 h3 hq]; exact h.hr _ _ (by omega) (by omega) (by omega) (by omega)
    · rw [rot4 (by omega) (by omega) (by omega)]; exact h.s2 _ _ (by omega) (by omega) h4
theorem Cut.fin (h : Cut X a m b s e) {Z1 Z2 : Nat → El} (p1 : PermOn a (s + (e - m)) (rot X s m e) Z1) (r1 : Srt Z1 a (s + (e - m))) (p2 : PermOn (s + (e - m)) b Z1 Z2) (r2 : Srt Z2 (s + (e - m)) b) : Srt Z2 a b ∧ PermOn a b X Z2 := by
  have := h.h1; have := h.h2; have := h.h3; have := h.h4
  refine ⟨fun i j hi hij hj => ?_, ?_⟩
  · by_cases h1 : j < s + (e - m)
    · rw [p2.out i (by omega), p2.out j (by omega)]
      exact r1 i j hi hij h1
    · by_cases h2 : s + (e - m) ≤ i
      · exact r2 i j h2 hij hj
      · rw [p2.out i (by omega)]
        refine p2.all (P := fun y => R (Z1 i) y) (fun k hk1 hk2 => ?_) j (by omega) hj
        rw [p1.out k (by omega)]
        exact p1.all (P := fun x => R x (rot X s m e k)) (fun l hl1 hl2 => h.over l k hl1 hl2 hk1 hk2) i hi (by omega)
  · exact (((rot_perm X h.h2 h.h3).wide h.h1 (by omega) h.h4).trans (p1.wide (Nat.le_refl _) (by omega) (by omega))).trans (p2.wide (by omega) (by omega) (Nat.le_refl _))
/-- Where one of two parts is empty the whole is sorted. -/
theorem srt_skip {Z : Nat → El} {a s d : Nat} (h1 : a ≤ s) (h2 : s ≤ d) (r1 : Srt Z a s) (r2 : Srt Z s d) (hn : ¬ (a < s ∧ s < d)) : Srt Z a d := by
  by_cases h : a < s
  · have e : d = s := by omega
    rw [e]; exact r1
  · have e : a = s := by omega
    rw [e]; exact r2
/-- What the search finds. -/
theorem cut_of {d : Nat} (hs1 : Srt X a m) (hs2 : Srt X m b) (htg : Tg X a m b) (h1 : a ≤ m) (h2 : m ≤ b) (hd : d = (a + b) / 2) {s0 r0 : Nat}
    (h0 : if d < m then s0 = d + m - b ∧ r0 = d else s0 = a ∧ r0 = m) (hs0 : s0 ≤ s) (hsr : s ≤ r0) (hl : ∀ c, s0 ≤ c → c < s → R (X c) (X (d + m - 1 - c))) (hr : ∀ c, s ≤ c → c < r0 → R (X (d + m - 1 - c)) (X c)) :
    Cut X a m b s (d + m - s) ∧ s + (d + m - s - m) = d := by
  have hb : s ≤ d ∧ a ≤ s ∧ s ≤ m ∧ d + m - s ≤ b ∧ d ≤ b := by split at h0 <;> omega
  obtain ⟨g1, g2, g3, g4, g5⟩ := hb
  refine ⟨⟨g2, g3, by omega, g4, hs1, hs2, htg, ?_, ?_⟩, by omega⟩
  · intro p q hp hps hq hqb
    have hs : s0 < s := by
      rcases Nat.lt_or_ge s0 s with h | h
      · exact h
      · split at h0 <;> omega
    have hc := hl (s - 1) (by omega) (by omega)
    have hin : m ≤ d + m - 1 - (s - 1) ∧ d + m - 1 - (s - 1) = d + m - s := by omega
    rw [hin.2] at hc
    have hle : R (X p) (X (d + m - s)) := by
      by_cases hpe : p = s - 1
      · rw [hpe]; exact hc
      · exact (hs1 p (s - 1) hp (by omega) (by omega)).trans hc
    by_cases hqe : q = d + m - s
    · rw [hqe]; exact hle
    · exact hle.trans (hs2 _ q (by omega) (by omega) hqb)
  · intro p q hp hpe hq hqm
    have hs : s < r0 := by
      rcases Nat.lt_or_ge s r0 with h | h
      · exact h
      · split at h0 <;> omega
    have hc := hr s (Nat.le_refl _) hs
    have hle : R (X p) (X s) := by
      by_cases hpe2 : p = d + m - 1 - s
      · rw [hpe2]; exact hc
      · exact (hs2 p (d + m - 1 - s) hp (by omega) (by omega)).trans hc
    by_cases hqe : q = s
    · rw [hqe]; exact hle
    · exact hle.trans (hs1 s q g2 (by omega) hqm)
end
end Sort06
end Go.Proofs.YtccmbnaakdffaaaDoor
/- Sorting, plain: an element stands where as many come ahead of it. No condition. -/
namespace Go.Proofs.YtccmbnaakdffaaaDoor
namespace Sort06
instance (x y : El) : Decidable (R x y) := by unfold R; infer_instance
instance (x y : El) : Decidable (kl x y) := by unfold kl; infer_instance
/-- How many of the first k come ahead of the i-th. -/
def atC (X : Nat → El) (i : Nat) : Nat → Nat
  | 0 => 0
  | k + 1 => if R (X k) (X i) then atC X i k + 1 else atC X i k
theorem atC_le (X : Nat → El) (i : Nat) : ∀ k, atC X i k ≤ k
  | 0 => Nat.le_refl _
  | k + 1 => by
    have := atC_le X i k
    unfold atC
    split <;> omega
theorem seg_succ (X : Nat → El) (k : Nat) : seg X 0 (k + 1) = seg X 0 k ++ [X k] := by
  rw [seg_cat X (Nat.zero_le k) (Nat.le_succ k)]
  congr 1
  unfold seg
  rw [show k.succ - k = 1 by omega]
  rfl
theorem atC_count (X : Nat → El) (i : Nat) : ∀ k, atC X i k = (seg X 0 k).countP (fun x => decide (R x (X i)))
  | 0 => rfl
  | k + 1 => by
    rw [seg_succ, List.countP_append, atC, atC_count X i k, List.countP_singleton]
    by_cases h : R (X k) (X i)
    · rw [if_pos h, if_pos (decide_eq_true h)]
    · rw [if_neg h, if_neg (by simpa using h), Nat.add_zero]
theorem srt_count {Y : Nat → El} {n q : Nat} (hs : Srt Y 0 n) (hq : q < n) : ∀ k, k ≤ n → (seg Y 0 k).countP (fun x => decide (R x (Y q))) = min k q
  | 0, _ => by simp [seg]
  | k + 1, h => by
    rw [seg_succ, List.countP_append, srt_count hs hq k (by omega), List.countP_singleton]
    by_cases hk : k < q
    · rw [if_pos (decide_eq_true (hs k q (by omega) hk hq))]
      omega
    · rw [if_neg]
      · omega
      · rw [decide_eq_true_eq]
        intro hr
        by_cases he : k = q
        · rw [he] at hr
          exact R.irr _ hr
        · exact R.asym hr (hs q k (by omega) (by omega) (by omega))
theorem at_is {X Y : Nat → El} {n i : Nat} (hp : PermOn 0 n X Y) (hs : Srt Y 0 n) (hi : i < n) : atC X i n < n ∧ Y (atC X i n) = X i := by
  obtain ⟨q, -, hq, he⟩ := seg_mem (hp.perm.symm.subset (mem_seg (X := X) (Nat.zero_le i) hi))
  have h1 : atC X i n = q := by
    rw [atC_count, ← hp.perm.countP_eq, ← he, srt_count hs hq n (Nat.le_refl _)]
    omega
  rw [h1]
  exact ⟨hq, he⟩
end Sort06
end Go.Proofs.YtccmbnaakdffaaaDoor
/- pfx: number: digits of a small number, held within 0 and 128. No condition. -/
namespace Go.Proofs.YtccmbnaakdffaaaDoor
open Go.RowKit Go.ChangeShapes Go.WideShapes Go.ChangeAt Go.Deep
namespace Addr05
theorem hexC_small (d : Nat) (h : d < 10) : Value.int .u8 (48 + (d : Int)) = u8v (hexC d) := by
  unfold u8v hexC
  rw [if_pos h]
  congr 1
  simp only [UInt8.toNat_ofNat']
  omega
set_option maxRecDepth 20000 in
set_option maxHeartbeats 4000000 in
theorem pnum_any (i : Int) (w : World) :
    Calls Tryd.prog 53 #[.int .i64 i] w fun e w' => e = .returned (.string (str (digL 10 (min (max i 0) 128).toNat))) ∧ Below w.heap.size w w' := by
  obtain ⟨m0, hm0⟩ : ∃ m : Nat, max i 0 = (m : Int) := ⟨(max i 0).toNat, by omega⟩
  obtain ⟨n, hn⟩ : ∃ n : Nat, min (m0 : Int) 128 = (n : Int) := ⟨(min (m0 : Int) 128).toNat, by omega⟩
  have hn128 : n ≤ 128 := by omega
  rw [hm0, hn, Int.toNat_natCast]
  go_enter Tryd.func53, Tryd.ntmps53
  go_wp2_with fail
  clear hm0 hn
  go_loopw [0, 3] (fun nv bv wr => ∃ (j m : Nat) (acc : List UInt8), j < 20 ∧ nv = .int .i64 (m : Int) ∧ m ≤ n ∧ m < 10 ^ (20 - j) ∧ digF 10 (20 - j) m ++ acc = digL 10 n ∧ acc.length = j ∧ OwnB wr w.heap.size bv acc ∧ Below w.heap.size w wr) (fun nv _ _ => (intOf nv).toNat)
  case atStart => exact ⟨0, n, [], by omega, rfl, Nat.le_refl _, by omega, by simp [digL], rfl, OwnB.nil _ _, Below.refl _ _⟩
  case round =>
    obtain ⟨j, m, acc, hj, rfl, hmn, hm, hd, hl, ho, hB⟩ := hrel
    obtain ⟨d, hdd⟩ : ∃ d, m % 10 = d := ⟨_, rfl⟩
    have hd10 : d < 10 := by omega
    have d1 : (m : Int) % 10 = (d : Int) := by omega
    have d2 : Int.tmod (m : Int) 10 = (d : Int) := by rw [Int.tmod_eq_emod_of_nonneg (by omega)]; omega
    have wd : IntKind.i64.wrap (48 + (d : Int)) = 48 + (d : Int) := wraps62 _ (by omega) (by omega)
    have wd8 : IntKind.u8.wrap (48 + (d : Int)) = 48 + (d : Int) := by rw [IntKind.wrap_u8]; omega
    have hlit := hexC_small d hd10
    replace hd := hide hd
    replace ho := hide ho
    replace hB := hide hB
    replace hlit := hide hlit
    obtain ⟨Ab, cb, rfl, hcb, hmb, hib⟩ := ho.out.form
    have hal := hl
    replace hib := hide hib
    replace hl := hide hl
    go_wp2_with (at_builtin; refine wpl_src_bv rfl (.tmp 13) (.tmp 14) rfl wr.heap.size (.slice (some ⟨wr.heap.size, 0, none⟩) 1 1) [hexC d] acc Ab acc.length cb wr.heap.size rfl rfl ?_ ?_ ?_ ?_ ?_)
    · exact OwnB.litv wr wr.heap.size _ [hexC d] 1 (by rw [hlit.out]; rfl) rfl (Nat.le_refl _) (by omega)
    · exact hib.out.below ((Below.refl _ _).alloc (Nat.le_refl _) _)
    · first | omega | simp
    · rw [List.length_singleton]; omega
    intro v2 w2 hown2 hg2
    have hb2 : Below wr.heap.size wr w2 := ((Below.refl _ _).alloc (Nat.le_refl _) _).trans (hg2.below (OwnB.litv wr wr.heap.size _ [hexC d] 1 (by rw [hlit.out]; rfl) rfl (Nat.le_refl _) (by omega)) (by simp))
    obtain ⟨q, hq⟩ : ∃ q, m / 10 = q := ⟨_, rfl⟩
    have q1 : (m : Int) / 10 = (q : Int) := by omega
    have q2 : Int.tdiv (m : Int) 10 = (q : Int) := by rw [Int.tdiv_eq_ediv_of_nonneg (by omega)]; omega
    have hsz := hB.out.size
    have hB2 := hB.out.trans (hb2.mono hsz)
    obtain ⟨t, ht⟩ : ∃ t, hexC d :: acc = t := ⟨_, rfl⟩
    have htl : t.length = j + 1 := by rw [← ht, List.length_cons, hl.out]
    rw [ht] at hown2
    obtain ⟨A2, c2, hv2, hc2, hm2, hi2⟩ := hown2.form
    rw [htl] at hv2 hc2 hi2
    subst hv2
    have hst := hi2.str c2
    have ho2 := hown2.weaken hsz
    clear hown2 hg2 hib ho
    have wq : IntKind.i64.wrap (q : Int) = (q : Int) := wraps62 _ (by omega) (by omega)
    replace hi2 := hide hi2
    replace hb2 := hide hb2
    replace hB2 := hide hB2
    replace ho2 := hide ho2
    replace hd := hide hd
    replace ht := hide ht
    replace hq := hide hq
    by_cases hz : m < 10
    · have t0 : decide ((m : Int) < 10) = true := by rw [decide_eq_true_eq]; omega
      go_wp2_with fail
      go_ret
      refine ⟨?_, hB2.out⟩
      obtain ⟨i, hi⟩ : ∃ i, 20 - j = i + 1 := ⟨19 - j, by omega⟩
      have h1 := hd.out.out
      rw [hi, digF_lt hz] at h1
      rw [Nat.mod_eq_of_lt hz] at hdd
      subst hdd
      have h3 : t = digL 10 n := by rw [← h1, ← ht.out]; rfl
      rw [← h3]
      rfl
    · have t0 : decide ((m : Int) < 10) = false := by rw [decide_eq_false_iff_not]; omega
      go_wp2_with fail
      have hqq := hq.out
      have hj19 : j < 19 := by
        rcases Nat.lt_or_ge j 19 with h | h
        · exact h
        · have e : j = 19 := by omega
          rw [e] at hm
          omega
      have h1 := hd.out.out
      have e2 : 20 - j = (19 - j) + 1 := by omega
      have e3 : 20 - (j + 1) = 19 - j := by omega
      rw [e2, digF_ge hz, hqq, hdd, List.append_assoc] at h1
      rw [e2, Nat.pow_succ] at hm
      refine ⟨⟨j + 1, q, t, by omega, rfl, by omega, ?_, ?_, htl, ho2.out, hB2.out⟩, ?_⟩
      · rw [e3, ← hqq]
        exact Nat.div_lt_of_lt_mul (by rw [Nat.mul_comm]; exact hm)
      · rw [e3, ← h1, ← ht.out]; rfl
      · simp only [intOf]; omega
end Addr05
end Go.Proofs.YtccmbnaakdffaaaDoor
/- pfx: plain: the longest key with which a row of bits begins. No condition. -/
namespace Go.Proofs.YtccmbnaakdffaaaDoor
open Go.RowKit Go.ChangeShapes Go.WideShapes Go.ChangeAt Go.Deep
namespace Addr05
abbrev Keys := List Nat → Option Int
/-- What Find tells of a row of bits: value and length of the longest key with which it begins. -/
def IsFind (M : Keys) (bs : List Nat) : Option (Int × Nat) → Prop
  | none => ∀ i, i ≤ bs.length → M (bs.take i) = none
  | some (v, n) => n ≤ bs.length ∧ M (bs.take n) = some v ∧ ∀ i, n < i → i ≤ bs.length → M (bs.take i) = none
theorem IsFind.unique {M : Keys} {bs : List Nat} {r r' : Option (Int × Nat)} (h : IsFind M bs r) (h' : IsFind M bs r') : r = r' := by
  cases r with
  | none =>
    cases r' with
    | none => rfl
    | some p =>
      obtain ⟨v, n⟩ := p
      have := h n h'.1
      rw [h'.2.1] at this
      cases this
  | some p =>
    obtain ⟨v, n⟩ := p
    cases r' with
    | none =>
      have := h' n h.1
      rw [h.2.1] at this
      cases this
    | some p' =>
      obtain ⟨v', n'⟩ := p'
      have e : n = n' := by
        rcases Nat.lt_trichotomy n n' with h1 | h1 | h1
        · have := h.2.2 n' h1 h'.1
          rw [h'.2.1] at this
          cases this
        · exact h1
        · have := h'.2.2 n h1 h.1
          rw [h.2.1] at this
          cases this
      subst e
      have := h.2.1.symm.trans h'.2.1
      cases this
      rfl
def upd (M : Keys) (k : List Nat) (v : Int) : Keys := fun q => if q = k then some v else M q
theorem take_inj (bs : List Nat) (i j : Nat) (hi : i ≤ bs.length) (hj : j ≤ bs.length) (h : bs.take i = bs.take j) : i = j := by
  have := congrArg List.length h
  rw [List.length_take, List.length_take] at this
  omega
/-- One more key: the longest may be that one. -/
theorem IsFind.put {M : Keys} {bs : List Nat} {r : Option (Int × Nat)} (h : IsFind M bs r) (k : List Nat) (v : Int) :
    IsFind (upd M k v) bs (if k = bs.take k.length ∧ k.length ≤ bs.length ∧ (∀ p, r = some p → p.2 ≤ k.length) then some (v, k.length) else r) := by
  by_cases hk : k = bs.take k.length ∧ k.length ≤ bs.length
  · have hne : ∀ i, i ≤ bs.length → i ≠ k.length → bs.take i ≠ k := by
      intro i hi hne e
      exact hne (take_inj bs i k.length hi hk.2 (e.trans hk.1))
    by_cases hr : ∀ p, r = some p → p.2 ≤ k.length
    · rw [if_pos ⟨hk.1, hk.2, hr⟩]
      refine ⟨hk.2, ?_, ?_⟩
      · unfold upd; rw [if_pos hk.1.symm]
      · intro i h1 h2
        unfold upd
        rw [if_neg (hne i h2 (by omega))]
        cases r with
        | none => exact h i h2
        | some p => exact h.2.2 i (by have := hr p rfl; omega) h2
    · rw [if_neg (fun e => hr e.2.2)]
      cases r with
      | none => exact absurd (fun p e => by cases e) hr
      | some p =>
        obtain ⟨v', n⟩ := p
        have hn : ¬ n ≤ k.length := fun e => hr (fun p' e' => by cases e'; exact e)
        refine ⟨h.1, ?_, ?_⟩
        · unfold upd
          rw [if_neg (hne n h.1 (by omega))]
          exact h.2.1
        · intro i h1 h2
          unfold upd
          rw [if_neg (hne i h2 (by omega))]
          exact h.2.2 i h1 h2
  · rw [if_neg (fun e => hk ⟨e.1, e.2.1⟩)]
    have hne : ∀ i, i ≤ bs.length → bs.take i ≠ k := by
      intro i hi e
      apply hk
      have hl := congrArg List.length e
      rw [List.length_take, Nat.min_eq_left hi] at hl
      rw [← hl]
      exact ⟨e.symm, hi⟩
    cases r with
    | none =>
      intro i hi
      unfold upd
      rw [if_neg (hne i hi)]
      exact h i hi
    | some p =>
      obtain ⟨v', n⟩ := p
      refine ⟨h.1, ?_, ?_⟩
      · unfold upd
        rw [if_neg (hne n h.1)]
        exact h.2.1
      · intro i h1 h2
        unfold upd
        rw [if_neg (hne i h2)]
        exact h.2.2 i h1 h2
end Addr05
end Go.Proofs.YtccmbnaakdffaaaDoor
/- addr: six: an address of version 6 out of a text. Condition: the cell of bytealg.MaxLen, a text of at most 80 bytes. -/
namespace Go.Proofs.YtccmbnaakdffaaaDoor
open Go.RowKit Go.ChangeShapes Go.WideShapes Go.ChangeAt Go.Deep
namespace Addr05
theorem below_drews (B : Nat) (w : World) (n : Nat) : Below B w (w.drewN n) := by
  induction n with
  | zero => exact Below.refl _ _
  | succ n ih => exact ih.drew
theorem cut_any (sep s : List UInt8) (hs : s.length ≤ 80) (w : World) (hm : MaxAt w) :
    Calls Tryd.prog 52 #[.string (str s), .string (str sep)] w fun e w' => e = .returned (.tuple #[.string (str (Lib.cut s sep).1), .string (str (Lib.cut s sep).2.1), .bool (Lib.cut s sep).2.2]) ∧ Below w.heap.size w w' := by
  obtain ⟨m, hm⟩ := hm
  refine (Tryd.strings_Cut (str s) (str sep) m w (by rw [size_str]; omega) hm).mono ?_
  rintro e w' ⟨rfl, n, rfl⟩
  exact ⟨rfl, below_drews _ _ n⟩
theorem cut_len (s sep : List UInt8) : (Lib.cut s sep).1.length ≤ s.length ∧ (Lib.cut s sep).2.1.length ≤ s.length := by
  unfold Lib.cut
  split <;> simp
  omega
theorem splice_map {α β : Type} (f : α → β) (L : List α) (o : Nat) (cs : List α) : splice (L.map f) o (cs.map f) = (splice L o cs).map f := by
  simp [splice]
/-- Numbers are copied into a block. -/
theorem wpl_copy_u64 {w : World} {ops : Array Oper} {rest : List Oper} {o : Oper} {a : Act} {Q : Exit → Act → World → Prop} (hgd : o.guard = none) (d s : Operand)
    (ho : o.op = .call { callee := .builtin .copy, args := #[d, s], argTypes := #[81, 81] }) (g p dl dc m sc B : Nat) (dp A : Option Addr) (cs : List Nat) (ys : List Nat) {t : TypeId}
    (hd : a.eval d = .slice dp dl dc) (hs : a.eval s = .slice A m sc) (hg : w.heap[g]? = some (.cells (cs.map u64v).toArray t (0, 0))) (hr : IsR u64v w B A m ys) (hdp : 0 < m → dp = some ⟨g, p, none⟩) (hfit : p + m ≤ cs.length) (hk : m ≤ dl)
    (h : ∀ w', w'.heap[g]? = some (.cells ((splice cs p ys).map u64v).toArray t (0, 0)) → Below g w w' → wpList Tryd.prog ops Q rest (a.put o.dst (goInt m)) w') : wpList Tryd.prog ops Q (o :: rest) a w := by
  have hl := hr.len
  have hlm : (ys.map u64v).length = m := by rw [List.length_map, hl]
  refine wpList_copy_splice hgd d s _ _ ho 22 Tryd.underlying81 (by kernel_rfl) _ _ _ _ _ _ hd hs g p (cs.map u64v) t hg (ys.map u64v) ?_ ?_ ?_ ?_ g w (Below.refl _ _) (Nat.le_refl _) ?_
  · rw [hlm]; exact (Nat.min_eq_left hk).symm
  · intro h1
    rw [hlm] at h1
    obtain ⟨b2, off2, rfl, _, hcs2⟩ := hr.2 h1
    refine ⟨hdp h1, _, rfl, fun j v hj => ?_⟩
    obtain ⟨hj', rfl⟩ := List.getElem?_eq_some_iff.1 hj
    rw [hlm] at hj'
    rw [show Addr.add ⟨b2, off2, none⟩ j = (⟨b2, off2 + j, none⟩ : Addr) by unfold Addr.add; split <;> simp_all]
    rw [hcs2 j (by rw [hlm]; exact hj')]
  · rw [hlm, List.length_map]; exact hfit
  · intro v hv
    obtain ⟨x, _, rfl⟩ := List.mem_map.1 hv
    rfl
  intro w' hh' hb'
  rw [hlm]
  have h2 := hh'.out
  rw [splice_map] at h2
  exact h w' h2 hb'
theorem sixG_splice (a b : List Nat) (h : a.length + b.length ≤ 8) : splice (splice (List.replicate 8 0) 0 a) (8 - b.length) b = sixG a b := by
  unfold splice sixG
  rw [List.take_zero, List.nil_append, Nat.zero_add, List.drop_replicate, List.take_append, List.take_of_length_le (by omega), List.take_replicate,
    List.drop_of_length_le (by rw [List.length_append, List.length_replicate]; omega), List.append_nil, show min (8 - b.length - a.length) (8 - a.length) = 8 - (a.length + b.length) by omega]
theorem wordN_snoc (l : List Nat) (k x : Nat) (h : l[k]? = some x) : wordN (l.take (k + 1)) = wordN (l.take k) * 65536 + x := by
  unfold wordN
  rw [List.take_add_one, h]
  simp
theorem wordN_pow : ∀ (l : List Nat) (n : Nat), (∀ x ∈ l, x < 65536) → l.foldl (fun n x => n * 65536 + x) n < (n + 1) * 65536 ^ l.length
  | [], n, _ => by simp
  | x :: r, n, h => by
    rw [List.foldl_cons, List.length_cons, Nat.pow_succ]
    have h1 := wordN_pow r (n * 65536 + x) fun y hy => h y (List.mem_cons_of_mem _ hy)
    have hx := h x List.mem_cons_self
    refine Nat.lt_of_lt_of_le h1 ?_
    rw [Nat.mul_comm (65536 ^ r.length) 65536, ← Nat.mul_assoc]
    exact Nat.mul_le_mul_right _ (by omega)
theorem wordN_take (l : List Nat) (k : Nat) (h : ∀ x ∈ l, x < 65536) (hk : k ≤ 3) : wordN (l.take k) < 281474976710656 := by
  have h1 := wordN_pow (l.take k) 0 fun x hx => h x (List.mem_of_mem_take hx)
  rw [Nat.zero_add, Nat.one_mul] at h1
  refine Nat.lt_of_lt_of_le h1 ?_
  refine Nat.le_trans (Nat.pow_le_pow_right (by omega) (show (l.take k).length ≤ 3 by rw [List.length_take]; omega)) (by decide)
theorem u64_or16 (n v : Nat) (hv : v < 65536) (hn : n < 281474976710656) : bits .or .u64 (((n * 65536 : Nat)) : Int) (v : Int) = ((n * 65536 + v : Nat) : Int) :=
  bits_join .u64 64 (by decide) wrapsu64 16 _ _ (by omega) (by omega) (by omega) (by omega) (by omega) (by omega)
theorem alloc_adr (o : Oper) (h : o.op = .alloc 24) (ρ : Operand → Value) (w : World) : (execOp ρ o).run Tryd.prog w = .ok (.value (.pointer (some ⟨w.heap.size, 0, none⟩))) (w.alloc (.cells #[.bool false, .int .u64 0, .int .u64 0] 24)) := by
  obtain ⟨d, op, t, ps, af, g⟩ := o
  dsimp only at h
  subst h
  kernel_rfl
theorem nums_len : ∀ (xs : List (List UInt8)) (l : List Nat), nums xs = some l → l.length = xs.length
  | [], l, h => by simp [nums] at h; subst h; rfl
  | x :: r, l, h => by
    rw [nums] at h
    split at h
    · obtain ⟨l', hl', rfl⟩ := Option.map_eq_some_iff.1 h
      simp [nums_len r l' hl']
    · cases h
theorem list_len (s : List UInt8) : ((listF s).getD []).length ≤ s.length + 1 := by
  cases h : listF s with
  | none => simp
  | some l =>
    unfold listF at h
    split at h
    · cases h; simp
    · have h1 := nums_len _ _ h
      have h2 := split_len 58 s
      simp only [Option.getD_some]
      omega
def adrO : Option (Nat × Nat) → Array Value
  | none => #[.bool false, .int .u64 0, .int .u64 0]
  | some p => #[.bool true, .int .u64 (p.1 : Int), .int .u64 (p.2 : Int)]
set_option maxRecDepth 20000 in
set_option maxHeartbeats 8000000 in
theorem six_any (s : List UInt8) (hs : s.length ≤ 80) (w : World) (hm : MaxAt w) :
    Calls Tryd.prog 42 #[.string (str s)] w fun e w' => e = .returned (.tuple #[.agg (adrO (sixF s)), .bool (sixF s).isSome]) ∧ Below w.heap.size w w' := by
  obtain ⟨R, hR⟩ : ∃ R, sixF s = R := ⟨_, rfl⟩
  rw [hR]
  obtain ⟨w1, hw1⟩ : ∃ w1, w.alloc (.cells #[.bool false, .int .u64 0, .int .u64 0] 24) = w1 := ⟨_, rfl⟩
  have hB : Below w.heap.size w w1 := hw1 ▸ (Below.refl _ _).alloc (Nat.le_refl _) _
  have hg : w1.heap[w.heap.size]? = some (.cells #[.bool false, .int .u64 0, .int .u64 0] 24 (0, 0)) := hw1 ▸ blk_new _ _ _
  have hzw : w.heap.size < w1.heap.size := by rw [← hw1]; simp
  have hm1 := hm.below hB
  have hcut := cut_any [58, 58] s hs w1 hm1
  have hcl := cut_len s [58, 58]
  have hRF := hR.symm
  unfold sixF at hRF
  obtain ⟨H, hH⟩ : ∃ x, (Lib.cut s [58, 58]).1 = x := ⟨_, rfl⟩
  obtain ⟨T, hT⟩ : ∃ x, (Lib.cut s [58, 58]).2.1 = x := ⟨_, rfl⟩
  obtain ⟨C, hC⟩ : ∃ x, (Lib.cut s [58, 58]).2.2 = x := ⟨_, rfl⟩
  rw [hH, hT, hC] at hRF hcut
  rw [hH, hT] at hcl
  have hlA := list_any H (by omega)
  have hlB := list_any T (by omega)
  have hn1 := list_len H
  have hn2 := list_len T
  have hL1 := list_lt H
  have hL2 := list_lt T
  obtain ⟨LA, hLA⟩ : ∃ x, listF H = x := ⟨_, rfl⟩
  obtain ⟨LB, hLB⟩ : ∃ x, listF T = x := ⟨_, rfl⟩
  rw [hLA] at hlA hL1 hRF hn1
  rw [hLB] at hlB hL2 hRF hn2
  obtain ⟨x, hx⟩ : ∃ x, LA.isSome = x := ⟨_, rfl⟩
  obtain ⟨y, hy⟩ : ∃ x, LB.isSome = x := ⟨_, rfl⟩
  obtain ⟨la, hla⟩ : ∃ x, LA.getD [] = x := ⟨_, rfl⟩
  obtain ⟨lb, hlb⟩ : ∃ x, LB.getD [] = x := ⟨_, rfl⟩
  rw [hx, hla] at hlA
  rw [hla] at hn1
  rw [hlb] at hn2
  rw [hy, hlb] at hlB
  have hn1 : la.length ≤ 81 := by omega
  have hn2 : lb.length ≤ 81 := by omega
  clear hH hT hC hLA hLB hR hcl
  replace hB := hide hB
  replace hg := hide hg
  replace hcut := hide hcut
  replace hRF := hide hRF
  replace hlA := hide hlA
  replace hlB := hide hlB
  replace hL1 := hide hL1
  replace hL2 := hide hL2
  replace hx := hide hx
  replace hy := hide hy
  replace hla := hide hla
  replace hlb := hide hlb
  replace hm := hide hm
  replace hm1 := hide hm1
  go_enter Tryd.func42, Tryd.ntmps42
  go_wp2_with fail
  clear hw1
  refine hcut.out.mono ?_
  rintro e w2 ⟨rfl, hb2⟩
  have hg2 := blk_below hb2 hzw hg.out
  have hB2 := hB.out.trans (hb2.mono hB.out.size)
  have hz2 := hb2.size
  have hm2 := hm1.out.below hb2
  clear hb2 hcut hg hB hm1
  replace hg2 := hide hg2
  replace hB2 := hide hB2
  replace hm2 := hide hm2
  go_wp2_with fail
  refine (hlA.out w2 hm2.out).mono ?_
  rintro e w3 ⟨va, rfl, hva, hb3⟩
  have hg3 := blk_below hb3 (by omega) hg2.out
  have hB3 := hB2.out.trans (hb3.mono hB2.out.size)
  have hz3 := hb3.size
  have hm3 := hm2.out.below hb3
  clear hb3 hlA hg2 hB2 hm2
  replace hg3 := hide hg3
  replace hB3 := hide hB3
  replace hm3 := hide hm3
  replace hva := hide hva
  go_wp2_with fail
  refine (hlB.out w3 hm3.out).mono ?_
  rintro e w4 ⟨vb, rfl, hvb, hb4⟩
  have hva4 := hva.out.below hb4
  have hg4 := blk_below hb4 (by omega) hg3.out
  have hB4 := hB3.out.trans (hb4.mono hB3.out.size)
  have hz4 := hb4.size
  clear hb4 hlB hg3 hB3 hm3 hva
  obtain ⟨A, ca, rfl, hca, hcam, hxa⟩ := hva4.form
  obtain ⟨A2, cb, rfl, hcb, hcbm, hxb⟩ := hvb.form
  unfold maxLen at hcam hcbm
  replace hg4 := hide hg4
  replace hB4 := hide hB4
  replace hva4 := hide hva4
  replace hvb := hide hvb
  replace hxa := hide hxa
  replace hxb := hide hxb
  obtain ⟨n, hn⟩ : ∃ n, la.length + lb.length = n := ⟨_, rfl⟩
  have wa : IntKind.i64.wrap ((la.length : Int) + (lb.length : Int)) = (n : Int) := by rw [wraps62 _ (by omega) (by omega)]; omega
  obtain ⟨b1, hb1⟩ : ∃ b, decide ((8 : Int) < (n : Int)) = b := ⟨_, rfl⟩
  obtain ⟨b2, hb2⟩ : ∃ b, ((la.length : Int) != 8) = b := ⟨_, rfl⟩
  obtain ⟨BAD, hBAD⟩ : ∃ b, (!x || !y || b1 || (!C && b2)) = b := ⟨_, rfl⟩
  replace hBAD := hide hBAD
  replace hn := hide hn
  go_upto_region 4 with fail
  go_cut [52] (fun bv wx => bv = .bool BAD ∧ w4 = wx)
  case first =>
    have hbad := hBAD.out
    clear hBAD
    replace hbad := hide hbad
    cases x
    · go_wp2_with fail
      go_meet
      exact ⟨by rw [← hbad.out]; rfl, rfl⟩
    cases y
    · go_wp2_with fail
      go_meet
      exact ⟨by rw [← hbad.out]; rfl, rfl⟩
    cases b1
    · cases C
      · cases b2
        · go_wp2_with fail
          go_meet
          exact ⟨by rw [← hbad.out]; rfl, rfl⟩
        · go_wp2_with fail
          go_meet
          exact ⟨by rw [← hbad.out]; rfl, rfl⟩
      · go_wp2_with fail
        go_meet
        exact ⟨by rw [← hbad.out]; rfl, rfl⟩
    · go_wp2_with fail
      go_meet
      exact ⟨by rw [← hbad.out]; rfl, rfl⟩
  case rest =>
    obtain ⟨rfl, rfl⟩ := hcut
    cases BAD
    · have hok : R = some (wordN ((sixG la lb).take 4), wordN ((sixG la lb).drop 4)) ∧ n ≤ 8 ∧ (∀ x ∈ la, x < 65536) ∧ (∀ x ∈ lb, x < 65536) := by
        have h1 := hBAD.out
        have h2 := hRF.out
        have h3 := hx.out
        have h4 := hy.out
        have h5 := hla.out
        have h6 := hlb.out
        have h7 := hL1.out
        have h8 := hL2.out
        have h9 := hn.out
        clear hBAD hRF hx hy hla hlb hL1 hL2 hn
        cases LA with
        | none => cases h3; simp at h1
        | some a =>
          cases LB with
          | none => cases h4; simp at h1
          | some b =>
            cases h3
            cases h4
            cases h5
            cases h6
            simp only [Option.isSome_some, Bool.not_true, Bool.false_or, Option.getD_some] at h1 h9 hb2 ⊢
            rw [Bool.or_eq_false_iff] at h1
            have hb1' : ¬ (8 : Int) < (n : Int) := of_decide_eq_false (hb1.trans h1.1)
            refine ⟨?_, by omega, h7 a rfl, h8 b rfl⟩
            rw [h2]
            dsimp only
            rw [if_neg]
            rintro (h | ⟨h, h'⟩)
            · omega
            · have h10 := h1.2
              rw [h, Bool.not_false, Bool.true_and] at h10
              rw [h10] at hb2
              simp at hb2
              omega
      obtain ⟨hR0, hn8, hl1, hl2⟩ := hok
      have hGl := sixG_len la lb (by have := hn.out; omega)
      have hGs := sixG_splice la lb (by have := hn.out; omega)
      have hGm := sixG_lt la lb hl1 hl2
      obtain ⟨G, hG⟩ : ∃ G, sixG la lb = G := ⟨_, rfl⟩
      rw [hG] at hR0 hGl hGs hGm
      subst hR0
      have hnl := hn.out
      clear hBAD hRF hx hy hla hlb hL1 hL2 hb1 hb2 wa hl1 hl2
      replace hGl := hide hGl
      replace hGs := hide hGs
      replace hGm := hide hGm
      replace hG := hide hG
      go_upto_region 6 with fail
      apply wp_region_lit
      refine Go.Great.wpList_runTo rfl (some 11) rfl _ _ (alloc_g8 _ rfl _ _) ?_
      have hg5 : (w4.alloc (.cells (grA 0 0 0) 86)).heap[w4.heap.size]? = some (.cells ((List.replicate 8 0).map u64v).toArray 86 (0, 0)) := blk_new _ _ _
      have hb5 : Below w4.heap.size w4 (w4.alloc (.cells (grA 0 0 0) 86)) := (Below.refl _ _).alloc (Nat.le_refl _) _
      have hz5 : w4.heap.size < (w4.alloc (.cells (grA 0 0 0) 86)).heap.size := by simp
      obtain ⟨w5, hw5⟩ : ∃ w5, w4.alloc (.cells (grA 0 0 0) 86) = w5 := ⟨_, rfl⟩
      rw [hw5] at hg5 hb5 hz5 ⊢
      clear hw5
      have hz4' := hB4.out.size
      have hzw4 : w.heap.size < w4.heap.size := by omega
      have hr5 := blk_below hb5 (by omega) hg4.out
      have hB5 := hB4.out.trans (hb5.mono hB4.out.size)
      clear hva4 hvb
      replace hg5 := hide hg5
      replace hr5 := hide hr5
      replace hB5 := hide hB5
      replace hb5 := hide hb5
      refine wpList_nil ?_
      go_simp
      go_upto_region 7 with fail
      apply wp_region_lit
      iterate 2 (refine wpList_plain rfl fun K hK => ?_; go_simp; refine hK _ _ ?_; clear hK K)
      refine wpl_copy_u64 rfl (.tmp 54) (.tmp 55) rfl w4.heap.size 0 8 8 la.length ca w4.heap.size (some ⟨w4.heap.size, 0, none⟩) A (List.replicate 8 0) la rfl rfl hg5.out (IsV.below hxa.out hb5.out) (fun _ => rfl) (by rw [List.length_replicate]; omega) (by omega) fun w6 hg6 hb6 => ?_
      have hr6 := hb6.block _ hzw4 |>.trans hr5.out
      have hB6 := hB5.out.trans (hb6.mono hz4')
      have hz6' := hb6.size
      have hb6 := hb5.out.trans hb6
      have hz6 := hb6.size
      clear hr5 hB5 hb5 hg5 hxa
      replace hg6 := hide hg6
      replace hr6 := hide hr6
      replace hB6 := hide hB6
      replace hb6 := hide hb6
      refine wpList_nil ?_
      go_simp
      obtain ⟨p, hp⟩ : ∃ p, 8 - lb.length = p := ⟨_, rfl⟩
      have wp : IntKind.i64.wrap (8 - (lb.length : Int)) = (p : Int) := by rw [wraps62 _ (by omega) (by omega)]; omega
      have hp8 : p ≤ 8 := by omega
      have hp0 : (0 : Int) ≤ (p : Int) := by omega
      have hp8i : (p : Int) ≤ 8 := by omega
      go_upto_region 8 with fail
      go_cut [] (fun wx => wx.heap[w4.heap.size]? = some (.cells (G.map u64v).toArray 86 (0, 0)) ∧ Below w4.heap.size w6 wx)
      case first =>
        by_cases hpe : p = 8
        · have hl0 : lb.length = 0 := by omega
          have wp8 : IntKind.i64.wrap (8 - (lb.length : Int)) = 8 := by rw [wraps62 _ (by omega) (by omega)]; omega
          clear wp hp8 hp8i hp0
          replace hl0 := hide hl0
          replace hpe := hide hpe
          apply wp_region_lit
          iterate 5 (refine wpList_plain rfl fun K hK => ?_; go_simp; refine hK _ _ ?_; clear hK K)
          refine wpl_copy_u64 rfl (.tmp 60) (.tmp 61) rfl w4.heap.size 8 0 0 lb.length cb w4.heap.size _ A2 _ lb rfl rfl hg6.out (IsV.below hxb.out hb6.out) (fun h => absurd h (by rw [hl0.out]; omega)) (by rw [hl0.out, length_splice _ _ _ (by rw [List.length_replicate]; omega), List.length_replicate]; omega) (by rw [hl0.out]; omega) fun w7 hg7 hb7 => ?_
          rw [show (8 : Nat) = 8 - lb.length by rw [hl0.out], show (List.replicate (8 - lb.length) 0) = List.replicate 8 0 by rw [hl0.out], hGs.out] at hg7
          clear hl0 hpe
          replace hg7 := hide hg7
          replace hb7 := hide hb7
          refine wpList_nil ?_
          go_wp2_with fail
          go_meet
          exact ⟨hg7.out, hb7.out⟩
        · have hpe' : ¬ 8 = p := by omega
          apply wp_region_lit
          iterate 5 (refine wpList_plain rfl fun K hK => ?_; go_simp; refine hK _ _ ?_; clear hK K)
          refine wpl_copy_u64 rfl (.tmp 60) (.tmp 61) rfl w4.heap.size p (8 - p) (8 - p) lb.length cb w4.heap.size (some ⟨w4.heap.size, p, none⟩) A2 _ lb rfl rfl hg6.out (IsV.below hxb.out hb6.out) (fun _ => rfl) (by rw [length_splice _ _ _ (by rw [List.length_replicate]; omega), List.length_replicate]; omega) (by omega) fun w7 hg7 hb7 => ?_
          rw [← hp, hGs.out] at hg7
          clear hpe hpe'
          replace hg7 := hide hg7
          replace hb7 := hide hb7
          refine wpList_nil ?_
          go_wp2_with fail
          go_meet
          exact ⟨hg7.out, hb7.out⟩
      case rest =>
        obtain ⟨hg7, hb7⟩ := hcut
        have hr7 := hb7.block _ hzw4 |>.trans hr6.out
        have hB7 := hB6.out.trans (hb7.mono hz4')
        have hz7 := hb7.size
        clear hr6 hB6 hb6 hg6 hxb hb7 wp hp8 hp8i hp0 hp
        replace hg7 := hide hg7
        replace hr7 := hide hr7
        replace hB7 := hide hB7
        go_upto_region 9 with fail
        apply wp_region_lit
        iterate 1 (refine wpList_plain rfl fun K hK => ?_; go_simp; refine hK _ _ ?_; clear hK K)
        have hzc : w4.heap.size < wc.heap.size := by omega
        refine wpl_new rfl rfl 24 _ (alloc_adr _ rfl) 12 rfl (.tmp 63) rfl _ (fun _ => rfl) (fun _ => rfl) rfl (by kernel_rfl) (adr_one true 0 0) ?_
        intro w8 hg8 hb8 hz8
        have hG8 := blk_below hb8 hzc hg7.out
        have hr8 := blk_below hb8 (by omega) hr7.out
        have hB8 := hB7.out.trans (hb8.mono hB7.out.size)
        clear hg7 hr7 hB7 hb8
        replace hg8 := hide hg8
        replace hG8 := hide hG8
        replace hr8 := hide hr8
        replace hB8 := hide hB8
        refine wpList_nil ?_
        go_simp
        obtain ⟨gg, hgg⟩ : ∃ x, w4.heap.size = x := ⟨_, rfl⟩
        obtain ⟨oo, hoo⟩ : ∃ x, wc.heap.size = x := ⟨_, rfl⟩
        rw [hgg] at hzc hG8 hzw4 ⊢
        rw [hoo] at hzc hg8 hz8 ⊢
        replace hgg := hide hgg
        replace hoo := hide hoo
        go_upto_block 2 with fail
        go_loopw [13, 64] (fun _ iv wr => ∃ k : Nat, k ≤ 4 ∧ iv = .int .i64 (k : Int) ∧ wr.heap[w.heap.size]? = some (.cells #[.bool false, .int .u64 0, .int .u64 0] 24 (0, 0)) ∧ wr.heap[gg]? = some (.cells (G.map u64v).toArray 86 (0, 0)) ∧ wr.heap[oo]? = some (.cells #[.bool true, .int .u64 ((wordN (G.take k) : Nat) : Int), .int .u64 ((wordN ((G.drop 4).take k) : Nat) : Int)] 24 (0, 0)) ∧ Below w.heap.size w wr ∧ oo < wr.heap.size) (fun _ iv _ => 4 - (intOf iv).toNat)
        case atStart => exact ⟨0, by omega, rfl, hr8.out, hG8.out, hg8.out, hB8.out, hz8⟩
        case round =>
          obtain ⟨k, hk, rfl, hrs, hgG, hgO, hBr, hzr⟩ := hrel
          clear hg8 hG8 hr8 hB8
          by_cases hk4 : k < 4
          · have i1 : (k : Int) < 4 := by omega
            have i2 : (0 : Int) ≤ (k : Int) := by omega
            have hG8l := hGl.out
            obtain ⟨k4, hk4'⟩ : ∃ x, k + 4 = x := ⟨_, rfl⟩
            have wa : IntKind.i64.wrap ((k : Int) + 4) = (k4 : Int) := by rw [wraps62 _ (by omega) (by omega)]; omega
            obtain ⟨v1, hv1⟩ : ∃ v, G[k]? = some v := ⟨_, List.getElem?_eq_getElem (by omega)⟩
            obtain ⟨v2, hv2⟩ : ∃ v, G[k4]? = some v := ⟨_, List.getElem?_eq_getElem (by omega)⟩
            have hv2' : (G.drop 4)[k]? = some v2 := by rw [List.getElem?_drop, Nat.add_comm, hk4', hv2]
            have hv1l := hGm.out v1 (List.mem_of_getElem? hv1)
            have hv2l := hGm.out v2 (List.mem_of_getElem? hv2)
            have eG1 : ((G.map u64v).toArray)[k]? = some (.int .u64 (v1 : Int)) := by rw [List.getElem?_toArray, List.getElem?_map, hv1]; rfl
            have eG2 : ((G.map u64v).toArray)[k4]? = some (.int .u64 (v2 : Int)) := by rw [List.getElem?_toArray, List.getElem?_map, hv2]; rfl
            have s1 := wordN_snoc G k v1 hv1
            have s2 := wordN_snoc (G.drop 4) k v2 hv2'
            have l1 := wordN_take G k hGm.out (by omega)
            have l2 := wordN_take (G.drop 4) k (fun x hx => hGm.out x (List.mem_of_mem_drop hx)) (by omega)
            obtain ⟨n1, hn1'⟩ : ∃ x, wordN (G.take k) = x := ⟨_, rfl⟩
            obtain ⟨n2, hn2'⟩ : ∃ x, wordN ((G.drop 4).take k) = x := ⟨_, rfl⟩
            rw [hn1'] at s1 l1 hgO
            rw [hn2'] at s2 l2 hgO
            have o1 := u64_or16 n1 v1 hv1l l1
            have o2 := u64_or16 n2 v2 hv2l l2
            have x1 : IntKind.u64.wrap ((n1 : Int) * 65536) = ((n1 * 65536 : Nat) : Int) := by rw [IntKind.wrap_u64]; omega
            have x2 : IntKind.u64.wrap ((n2 : Int) * 65536) = ((n2 * 65536 : Nat) : Int) := by rw [IntKind.wrap_u64]; omega
            rw [← s1] at o1
            rw [← s2] at o2
            obtain ⟨m1, hm1'⟩ : ∃ x, n1 * 65536 = x := ⟨_, rfl⟩
            obtain ⟨m2, hm2'⟩ : ∃ x, n2 * 65536 = x := ⟨_, rfl⟩
            obtain ⟨p1, hp1⟩ : ∃ x, wordN (G.take (k + 1)) = x := ⟨_, rfl⟩
            obtain ⟨p2, hp2⟩ : ∃ x, wordN ((G.drop 4).take (k + 1)) = x := ⟨_, rfl⟩
            rw [hm1'] at o1 x1
            rw [hm2'] at o2 x2
            rw [hp1] at o1
            rw [hp2] at o2
            have i5 : (k4 : Int) < 8 := by omega
            have i6 : (k : Int) < 8 := by omega
            have i7 : (0 : Int) ≤ (k4 : Int) := by omega
            clear s1 s2 l1 l2 hv1 hv2 hv2'
            replace hrs := hide hrs
            replace hgG := hide hgG
            replace hgO := hide hgO
            replace hBr := hide hBr
            replace hp1 := hide hp1
            replace hp2 := hide hp2
            replace hm1' := hide hm1'
            replace hm2' := hide hm2'
            replace hn1' := hide hn1'
            replace hn2' := hide hn2'
            replace hk4' := hide hk4'
            go_wp2_with fail
            refine wp_region_W [16, 18] wr.heap.size (fun j => j = oo) (by as_aux_lemma => kernel_rfl) ?_
            intro wd hbd
            have hzd := hbd.size
            have hOd := blk_below hbd (by omega) hgO.out
            have hGd := blk_below hbd (by omega) hgG.out
            have hRd := blk_below hbd (by have := hzr; omega) hrs.out
            have hBd := hBr.out.trans (hbd.mono hBr.out.size)
            obtain ⟨w16, e16, hg16, gr16⟩ := store_cell hOd 1 (.int .u64 (p1 : Int))
            have hg16 : w16.heap[oo]? = some (.cells #[.bool true, .int .u64 (p1 : Int), .int .u64 (n2 : Int)] 24 (0, 0)) := hg16
            obtain ⟨w18, e18, hg18, gr18⟩ := store_cell hg16 2 (.int .u64 (p2 : Int))
            have hg18 : w18.heap[oo]? = some (.cells #[.bool true, .int .u64 (p1 : Int), .int .u64 (p2 : Int)] 24 (0, 0)) := hg18
            have hA1 := fun (l : KeptSW wr.heap.size (fun _ => False) wd) => blk_cell (l.blk hOd (by omega) id) 1
            have hA2 := fun (l : KeptSW wr.heap.size (fun _ => False) wd) => blk_cell (l.blk hOd (by omega) id) 2
            have hA3 := fun (l : KeptSW wr.heap.size (fun _ => False) wd) => (blk_cell (l.blk hGd (by omega) id) k).trans eG1
            have hA4 := fun (l : KeptSW wr.heap.size (fun j => j = oo) wd) => (blk_cell (l.blk hGd (by omega) (by omega)) k4).trans eG2
            have c16 := blk_cell hOd 1
            have c18 := blk_cell hg16 2
            have f16 := blk_free hOd 1
            have f18 := blk_free hg16 2
            replace hg16 := hide hg16
            replace hg18 := hide hg18
            replace gr16 := hide gr16
            replace gr18 := hide gr18
            replace hOd := hide hOd
            replace hGd := hide hGd
            replace hRd := hide hRd
            replace hBd := hide hBd
            replace hbd := hide hbd
            replace eG1 := hide eG1
            replace eG2 := hide eG2
            refine wpWH_seg [16, 18] wr.heap.size (fun j => j = oo) 0 9 (fuel := 10) (by as_aux_lemma => kernel_rfl) (fun d _ _ _ _ h => by cases d <;> exact h) (by as_aux_lemma => kernel_rfl) (by as_aux_lemma => kernel_rfl) (by as_aux_lemma => kernel_rfl) ?_
            simp only [List.drop_zero, List.take_succ_cons, List.take_zero]
            iterate 9 (refine wpQS_step (fun K hK => ?_); go_simp; refine hK _ ?_; clear hK K)
            refine wpQF_nil ?_
            refine wpWS_seg [16, 18] wr.heap.size (fun j => j = oo) 9 6 (fuel := 4) (by as_aux_lemma => kernel_rfl) (fun d _ _ _ _ h => by cases d <;> exact h) (by as_aux_lemma => kernel_rfl) (by as_aux_lemma => kernel_rfl) ?_
            simp only [List.drop_succ_cons, List.drop_zero, List.take_succ_cons, List.take_zero]
            iterate 6 (refine wpQS_step (fun K hK => ?_); go_simp; refine hK _ ?_; clear hK K)
            refine wpQF_nil ?_
            clear hA1 hA2 hA3 hA4
            refine wpW_step 15 rfl (by as_aux_lemma => kernel_rfl) (fun K hK => ?_)
            go_simp
            refine hK _ _ (relS_refl _ _ _ _ _) ?_
            clear hK K
            refine wpW_step 16 rfl (by as_aux_lemma => kernel_rfl) (fun K hK => ?_)
            go_simp
            refine hK _ _ (relS_of rfl ⟨gr16.out.os, gr16.out.tape, gr16.out.output, gr16.out.size, fun j hj hne => gr16.out.block j (by omega) (fun e => hne (by cases e; rfl))⟩) ?_
            clear hK K
            refine wpW_step 17 rfl (by as_aux_lemma => kernel_rfl) (fun K hK => ?_)
            go_simp
            refine hK _ _ (relS_refl _ _ _ _ _) ?_
            clear hK K
            refine wpW_step 18 rfl (by as_aux_lemma => kernel_rfl) (fun K hK => ?_)
            go_simp
            refine hK _ _ (relS_of rfl ⟨gr18.out.os, gr18.out.tape, gr18.out.output, gr18.out.size, fun j hj hne => gr18.out.block j (by have := gr16.out.size; omega) (fun e => hne (by cases e; rfl))⟩) ?_
            clear hK K
            refine wpW_done (by as_aux_lemma => kernel_rfl) ?_ _
            clear e16 e18 c16 c18 f16 f18
            have hz16 := gr16.out.size
            have hz18 := gr18.out.size
            have hG18 := grown_other gr18.out (by omega) (by omega) (grown_other gr16.out (by omega) (by omega) hGd.out)
            have hR18 := grown_other gr18.out (by omega) (by omega) (grown_other gr16.out (by omega) (by omega) hRd.out)
            have hB18 : Below w.heap.size w w18 := (hBd.out.trans (below_grown gr16.out (by omega) (by omega))).trans (below_grown gr18.out (by omega) (by omega))
            have hO18 := hg18.out
            rw [← hp1.out, ← hp2.out] at hO18
            clear hg16 hg18 gr16 gr18 hOd hGd hRd hBd hbd hrs hgG hgO hBr hp1 hp2
            replace hG18 := hide hG18
            replace hR18 := hide hR18
            replace hB18 := hide hB18
            replace hO18 := hide hO18
            go_wp2_with fail
            refine ⟨⟨k + 1, by omega, by first | rfl | go_num, hR18.out, hG18.out, hO18.out, hB18.out, by omega⟩, by simp only [intOf]; omega⟩
          · have hk9 : k = 4 := by omega
            subst hk9
            have t8 : (G.drop 4).take 4 = G.drop 4 := List.take_of_length_le (by rw [List.length_drop, hGl.out]; decide)
            rw [t8] at hgO
            obtain ⟨N1, hN1⟩ : ∃ x, wordN (G.take 4) = x := ⟨_, rfl⟩
            obtain ⟨N2, hN2⟩ : ∃ x, wordN (G.drop 4) = x := ⟨_, rfl⟩
            rw [hN1, hN2] at hgO
            replace hrs := hide hrs
            replace hgG := hide hgG
            replace hgO := hide hgO
            replace hBr := hide hBr
            replace hN1 := hide hN1
            replace hN2 := hide hN2
            go_upto_region 15 with fail
            apply wp_region_lit
            refine wpl_ld rfl 24 (.tmp 12) rfl oo rfl _ _ hgO.out Tryd.underlying24 rfl (by kernel_rfl) ?_
            refine wpl_st rfl 24 (.tmp 2) (.tmp 85) rfl (w.heap.size) 0 rfl (#[.bool true, .int .u64 (N1 : Int), .int .u64 (N2 : Int)]) rfl hrs.out (by simp) (by kernel_rfl) (adr_one _ _ _) fun w9 hg9 g9 => ?_
            rw [putA_whole _ _ (by rfl)] at hg9
            have hb9 : Below (w.heap.size) w w9 := (hBr.out).trans (below_grown g9 (by have := (hBr.out).size; omega) (Nat.le_refl _))
            have hld : (loadVar 24 ⟨w.heap.size, 0, none⟩).run Tryd.prog w9 = .ok (.agg (#[.bool true, .int .u64 (N1 : Int), .int .u64 (N2 : Int)])) w9 := by
              simpa using run_loadVar_mid w9 (w.heap.size) 0 24 (#[.bool true, .int .u64 (N1 : Int), .int .u64 (N2 : Int)]).toList _ (blk_range hg9) Tryd.underlying24 rfl (by kernel_rfl)
            clear hg9 g9
            replace hld := hide hld
            replace hb9 := hide hb9
            iterate 1 (refine wpList_plain rfl fun K hK => ?_; go_simp; refine hK _ _ ?_; clear hK K)
            refine wpList_nil ?_
            go_simp
            go_wp2_with fail
            exact bodyPost_ret (v := .tuple #[.agg #[.bool true, .int .u64 (N1 : Int), .int .u64 (N2 : Int)], .bool true]) (by simp [results, Tryd.results42, asAddr, hld.out, Result.andThen]) rfl ⟨by rw [hN1.out, hN2.out]; rfl, hb9.out⟩
    · have hR0 : R = none := by
        have h1 := hBAD.out
        have h2 := hRF.out
        have h3 := hx.out
        have h4 := hy.out
        have h5 := hla.out
        have h6 := hlb.out
        have h9 := hn.out
        clear hBAD hRF hx hy hla hlb hL1 hL2 hn
        rw [h2]
        cases LA with
        | none => rfl
        | some a =>
          cases LB with
          | none => rfl
          | some b =>
            cases h3
            cases h4
            cases h5
            cases h6
            simp only [Option.isSome_some, Bool.not_true, Bool.false_or, Option.getD_some] at h1 h9 hb2 ⊢
            rw [if_pos]
            rw [Bool.or_eq_true] at h1
            rcases h1 with h | h
            · rw [h] at hb1
              have := of_decide_eq_true hb1
              exact .inl (by omega)
            · rw [Bool.and_eq_true] at h
              refine .inr ⟨by simpa using h.1, ?_⟩
              rw [h.2] at hb2
              simp at hb2
              omega
      subst hR0
      clear hBAD hRF hx hy hla hlb hL1 hL2 hb1 hb2 wa hn hxa hxb hva4 hvb
      go_upto_region 5 with fail
      apply wp_region_lit
      iterate 1 (refine wpList_plain rfl fun K hK => ?_; go_simp; refine hK _ _ ?_; clear hK K)
      refine wpl_st rfl 24 (.tmp 2) (.tmp 53) rfl (w.heap.size) 0 rfl (#[.bool false, .int .u64 0, .int .u64 0]) rfl hg4.out (by simp) (by kernel_rfl) (adr_one _ _ _) fun w9 hg9 g9 => ?_
      rw [putA_whole _ _ (by rfl)] at hg9
      have hb9 : Below (w.heap.size) w w9 := (hB4.out).trans (below_grown g9 (by have := (hB4.out).size; omega) (Nat.le_refl _))
      have hld : (loadVar 24 ⟨w.heap.size, 0, none⟩).run Tryd.prog w9 = .ok (.agg (#[.bool false, .int .u64 0, .int .u64 0])) w9 := by
        simpa using run_loadVar_mid w9 (w.heap.size) 0 24 (#[.bool false, .int .u64 0, .int .u64 0]).toList _ (blk_range hg9) Tryd.underlying24 rfl (by kernel_rfl)
      clear hg9 g9
      replace hld := hide hld
      replace hb9 := hide hb9
      iterate 1 (refine wpList_plain rfl fun K hK => ?_; go_simp; refine hK _ _ ?_; clear hK K)
      refine wpList_nil ?_
      go_simp
      go_wp2_with fail
      exact bodyPost_ret (v := .tuple #[.agg #[.bool false, .int .u64 0, .int .u64 0], .bool false]) (by simp [results, Tryd.results42, asAddr, hld.out, Result.andThen]) rfl ⟨rfl, hb9.out⟩
end Addr05
end Go.Proofs.YtccmbnaakdffaaaDoor
