/- pfx: plain: what a trie finds that prefixes were put in, one by one. No condition. -/
import Derived.Test.YtbcicbiphgeghaaDoorQLimitFull10
import Derived.Test.YtbcicbiphgeghaaDoorQLimitFull9
import Derived.Test.YtbcicbiphgeghaaDoorQLimitFull3
import Derived.Test.YtbcicbiphgeghaaDoorQLimitFull2
namespace Go.Proofs.YtbcicbiphgeghaaDoor
open Go.RowKit Go.ChangeShapes Go.WideShapes Go.ChangeAt Go.Deep
namespace Addr05
/-- A prefix and its value. -/
structure PutE where
  p : Adr
  i : Int
  v : Int
deriving DecidableEq
def PutE.key (e : PutE) : List Nat := pkey e.p e.i.toNat
def PutE.right (e : PutE) : Bool := rightP e.p e.i
def stepM (M : Keys) (e : PutE) : Keys := if e.right = true then upd M e.key e.v else M
def keysOf (l : List PutE) : Keys := l.foldl stepM (fun _ => none)
def stepR (a : Adr) (r : Option (Int × Nat)) (e : PutE) : Option (Int × Nat) :=
  if hasP e.p e.i a = true ∧ (∀ q, r = some q → (q.2 : Int) ≤ e.i) then some (e.v, e.i.toNat) else r
def pickOf (a : Adr) (l : List PutE) : Option (Int × Nat) := l.foldl (stepR a) none
theorem keysOf_snoc (l : List PutE) (k : Nat) (e : PutE) (h : l[k]? = some e) : keysOf (l.take (k + 1)) = stepM (keysOf (l.take k)) e := by
  unfold keysOf
  rw [List.take_add_one, h]
  simp
theorem pickOf_snoc (a : Adr) (l : List PutE) (k : Nat) (e : PutE) (h : l[k]? = some e) : pickOf a (l.take (k + 1)) = stepR a (pickOf a (l.take k)) e := by
  unfold pickOf
  rw [List.take_add_one, h]
  simp
def bitsN (a : Adr) (k : Nat) : List Nat := (List.range k).map a.bit
theorem bitsN_len (a : Adr) (k : Nat) : (bitsN a k).length = k := by unfold bitsN; simp
theorem bitsN_take (a : Adr) (k n : Nat) (h : k ≤ n) : (bitsN a n).take k = bitsN a k := by
  unfold bitsN
  rw [← List.map_take, List.take_range, Nat.min_eq_left h]
theorem bitsN_eq (a b : Adr) (k : Nat) : bitsN a k = bitsN b k ↔ ∀ j, j < k → a.bit j = b.bit j := by
  unfold bitsN
  constructor
  · intro h j hj
    have := congrArg (fun l => l[j]?) h
    simpa [hj] using this
  · intro h
    apply List.map_congr_left
    intro j hj
    exact h j (List.mem_range.1 hj)
theorem vbit_inj (a b : Bool) (h : vbit a = vbit b) : a = b := by
  cases a <;> cases b <;> first | rfl | (exfalso; revert h; decide)
theorem hasP_iff (e : PutE) (a : Adr) (hp : e.p.ok) (ha : a.ok) (har : a.right) (hr : e.right = true) : hasP e.p e.i a = true ↔ vbit e.p.v6 = vbit a.v6 ∧ bitsN e.p e.i.toNat = (bitsN a a.w).take e.i.toNat ∧ e.i.toNat ≤ a.w := by
  have h0 : 0 ≤ e.i := by
    rcases Int.lt_or_le e.i 0 with h | h
    · unfold PutE.right at hr; rw [right_no2 _ _ h] at hr; cases hr
    · exact h
  obtain ⟨k, hk⟩ : ∃ k : Nat, e.i = (k : Int) := ⟨e.i.toNat, by omega⟩
  unfold PutE.right at hr
  rw [hk] at hr ⊢
  rw [Int.toNat_natCast]
  have hkw := (rightP_facts e.p k hr).2.1
  by_cases h6 : a.v6 = e.p.v6
  · have hw : a.w = e.p.w := by unfold Adr.w; rw [h6]
    rw [has_bits e.p k a hp ha har hr (by simp [h6]), bitsN_take a k a.w (by omega), bitsN_eq]
    exact ⟨fun h => ⟨by rw [h6], h, by omega⟩, fun h => h.2.1⟩
  · rw [has_no2 e.p _ a (by simpa using h6)]
    constructor
    · intro h; cases h
    · rintro ⟨h, -⟩
      exact absurd (vbit_inj _ _ h).symm h6
/-- The keys of one version. -/
def sub (M : Keys) (v : Nat) : Keys := fun q => M (v :: q)
theorem find_step (a : Adr) (ha : a.ok) (har : a.right) (M : Keys) (r : Option (Int × Nat)) (h : IsFind (sub M (vbit a.v6)) (bitsN a a.w) r) (e : PutE) (hp : e.p.ok) : IsFind (sub (stepM M e) (vbit a.v6)) (bitsN a a.w) (stepR a r e) := by
  unfold stepM stepR
  by_cases hr : e.right = true
  · rw [if_pos hr]
    have h0 : 0 ≤ e.i := by
      rcases Int.lt_or_le e.i 0 with h | h
      · unfold PutE.right at hr; rw [right_no2 _ _ h] at hr; cases hr
      · exact h
    have hiff := hasP_iff e a hp ha har hr
    by_cases hv : vbit e.p.v6 = vbit a.v6
    · have e1 : sub (upd M e.key e.v) (vbit a.v6) = upd (sub M (vbit a.v6)) (bitsN e.p e.i.toNat) e.v := by
        funext q
        unfold sub upd PutE.key pkey
        rw [hv]
        show (if (vbit a.v6 :: q) = vbit a.v6 :: bitsN e.p e.i.toNat then some e.v else _) = _
        by_cases hq : q = bitsN e.p e.i.toNat
        · rw [if_pos (by rw [hq]), if_pos hq]
        · rw [if_neg (fun h => hq (List.cons.inj h).2), if_neg hq]
      rw [e1]
      have h1 := h.put (bitsN e.p e.i.toNat) e.v
      rw [bitsN_len] at h1
      have e2 : (bitsN e.p e.i.toNat = (bitsN a a.w).take e.i.toNat ∧ e.i.toNat ≤ (bitsN a a.w).length ∧ (∀ p, r = some p → p.2 ≤ e.i.toNat)) ↔ (hasP e.p e.i a = true ∧ (∀ q, r = some q → (q.2 : Int) ≤ e.i)) := by
        rw [hiff, bitsN_len]
        constructor
        · rintro ⟨h1, h2, h3⟩
          exact ⟨⟨hv, h1, h2⟩, fun q hq => by have := h3 q hq; omega⟩
        · rintro ⟨⟨-, h1, h2⟩, h3⟩
          exact ⟨h1, h2, fun q hq => by have := h3 q hq; omega⟩
      by_cases hc : hasP e.p e.i a = true ∧ (∀ q, r = some q → (q.2 : Int) ≤ e.i)
      · rw [if_pos hc]
        rwa [if_pos (e2.2 hc)] at h1
      · rw [if_neg hc]
        rwa [if_neg (fun h => hc (e2.1 h))] at h1
    · rw [if_neg (fun h => hv (hiff.1 h.1).1)]
      have e1 : sub (upd M e.key e.v) (vbit a.v6) = sub M (vbit a.v6) := by
        funext q
        unfold sub upd PutE.key pkey
        rw [if_neg (fun h => hv (List.cons.inj h).1.symm)]
      rw [e1]
      exact h
  · rw [if_neg hr, if_neg]
    · exact h
    · rintro ⟨h1, -⟩
      rw [has_no1 e.p e.i a (by unfold PutE.right at hr; simpa using hr)] at h1
      cases h1
theorem find_all (a : Adr) (ha : a.ok) (har : a.right) : ∀ (l : List PutE), (∀ e ∈ l, e.p.ok) → ∀ (M : Keys) (r : Option (Int × Nat)), IsFind (sub M (vbit a.v6)) (bitsN a a.w) r → IsFind (sub (l.foldl stepM M) (vbit a.v6)) (bitsN a a.w) (l.foldl (stepR a) r)
  | [], _, _, _, h => h
  | e :: l, hl, M, r, h => find_all a ha har l (fun x hx => hl x (List.mem_cons_of_mem _ hx)) _ _ (find_step a ha har M r h e (hl e List.mem_cons_self))
theorem best_spec (m : Nat → Option Int) : ∀ i, match best m i with
    | none => ∀ j, j < i → m j = none
    | some p => p.2 < i ∧ m p.2 = some p.1 ∧ ∀ j, p.2 < j → j < i → m j = none
  | 0 => fun j h => by omega
  | i + 1 => by
    have ih := best_spec m i
    rw [best]
    cases hm : m i with
    | some v => exact ⟨by dsimp only; omega, hm, fun j h1 h2 => by dsimp only at h1; omega⟩
    | none =>
      dsimp only
      cases hb : best m i with
      | none =>
        rw [hb] at ih
        intro j hj
        rcases Nat.lt_or_ge j i with h | h
        · exact ih j h
        · rw [show j = i by omega]; exact hm
      | some p =>
        rw [hb] at ih
        exact ⟨by omega, ih.2.1, fun j h1 h2 => by
          rcases Nat.lt_or_ge j i with h | h
          · exact ih.2.2 j h1 h
          · rw [show j = i by omega]; exact hm⟩
theorem best_find (a : Adr) (M : Keys) : IsFind (sub M (vbit a.v6)) (bitsN a a.w) (best (fun j => M (pkey a j)) (a.w + 1)) := by
  have h := best_spec (fun j => M (pkey a j)) (a.w + 1)
  have e : ∀ j, j ≤ a.w → sub M (vbit a.v6) ((bitsN a a.w).take j) = M (pkey a j) := fun j hj => by
    rw [bitsN_take a j a.w hj]
    rfl
  cases hb : best (fun j => M (pkey a j)) (a.w + 1) with
  | none =>
    rw [hb] at h
    intro j hj
    rw [bitsN_len] at hj
    rw [e j hj]
    exact h j (by omega)
  | some p =>
    rw [hb] at h
    obtain ⟨v, n⟩ := p
    obtain ⟨h1, h2, h3⟩ := h
    dsimp only at h1 h2 h3
    refine ⟨by rw [bitsN_len]; omega, by rw [e n (by omega)]; exact h2, fun j h4 h5 => ?_⟩
    rw [bitsN_len] at h5
    rw [e j h5]
    exact h3 j h4 (by omega)
/-- What Find tells is what the law picks. -/
theorem find_pick (a : Adr) (ha : a.ok) (har : a.right) (l : List PutE) (hl : ∀ e ∈ l, e.p.ok) : best (fun j => keysOf l (pkey a j)) (a.w + 1) = pickOf a l :=
  (best_find a (keysOf l)).unique (find_all a ha har l hl _ none (fun _ _ => rfl))
theorem key_inj (e d : PutE) (he : e.p.ok) (hd : d.p.ok) (hre : e.right = true) (hrd : d.right = true) (h : e.key = d.key) : e.p = d.p ∧ e.i = d.i := by
  have pos : ∀ x : PutE, x.right = true → ∃ k : Nat, x.i = (k : Int) := fun x hx => by
    rcases Int.lt_or_le x.i 0 with h | h
    · unfold PutE.right at hx; rw [right_no2 _ _ h] at hx; cases hx
    · exact ⟨x.i.toNat, by omega⟩
  obtain ⟨k, hk⟩ := pos e hre
  obtain ⟨k', hk'⟩ := pos d hrd
  unfold PutE.key at h
  rw [hk, hk', Int.toNat_natCast, Int.toNat_natCast] at h
  unfold PutE.right at hre hrd
  rw [hk] at hre
  rw [hk'] at hrd
  have hlen : k = k' := by
    have := congrArg List.length h
    unfold pkey at this
    simpa using this
  subst hlen
  obtain ⟨h1, h2⟩ := List.cons.inj h
  have h6 := vbit_inj _ _ h1
  have hb := (bitsN_eq e.p d.p k).1 h2
  obtain ⟨hr1, hw1, hm1⟩ := rightP_facts e.p k hre
  obtain ⟨hr2, hw2, hm2⟩ := rightP_facts d.p k hrd
  have h3 := (d.p.mask_eq2 e.p hd hr2 he hr1 h6.symm k hw2 hm1).2 hb
  rw [hm2] at h3
  exact ⟨h3.symm, by rw [hk, hk']⟩
theorem keys_some (l : List PutE) : ∀ (q : List Nat) (M : Keys), (l.foldl stepM M q).isSome = true ↔ (M q).isSome = true ∨ ∃ e ∈ l, e.right = true ∧ e.key = q := by
  induction l with
  | nil => intro q M; simp
  | cons e l ih =>
    intro q M
    rw [List.foldl_cons, ih]
    unfold stepM
    by_cases hr : e.right = true
    · rw [if_pos hr]
      unfold upd
      by_cases hq : q = e.key
      · rw [if_pos hq]
        simp [hr, hq]
      · rw [if_neg hq]
        simp [hr, Ne.symm hq]
    · rw [if_neg hr]
      simp [hr]
/-- Is a prefix not among the first ones? -/
def freshB (l : List PutE) (k : Nat) (e : PutE) : Bool := (l.take k).all fun d => !(decide (d.p = e.p ∧ d.i = e.i))
theorem fresh_keys (l : List PutE) (k : Nat) (e : PutE) (hl : ∀ x ∈ l, x.p.ok) (he : e.p.ok) (hr : e.right = true) : freshB l k e = !(keysOf (l.take k) e.key).isSome := by
  rw [Bool.eq_iff_iff]
  unfold freshB keysOf
  rw [Bool.not_eq_true', ← Bool.not_eq_true, keys_some, List.all_eq_true]
  constructor
  · rintro h (h1 | ⟨d, hd, h1, h2⟩)
    · cases h1
    · have h3 := h d hd
      obtain ⟨h4, h5⟩ := key_inj d e (hl d (List.mem_of_mem_take hd)) he h1 hr h2
      simp [h4, h5] at h3
  · intro h d hd
    by_cases hde : d.p = e.p ∧ d.i = e.i
    · refine absurd (.inr ⟨d, hd, ?_, ?_⟩) h
      · unfold PutE.right at hr ⊢; rw [hde.1, hde.2]; exact hr
      · unfold PutE.key; rw [hde.1, hde.2]
    · simp [hde]
theorem fresh_snoc (l : List PutE) (k : Nat) (e d : PutE) (h : l[k]? = some d) : freshB l (k + 1) e = (freshB l k e && !(decide (d.p = e.p ∧ d.i = e.i))) := by
  unfold freshB
  rw [List.take_add_one, h]
  simp
end Addr05
end Go.Proofs.YtbcicbiphgeghaaDoor
/- wide: Mul; rate: Go. Conditions: numbers in range. -/
namespace Go.Proofs.YtbcicbiphgeghaaDoor
open Go.RowKit Go.ChangeShapes Go.WideShapes Go.ChangeAt Go.Deep
namespace Addr05
set_option maxRecDepth 20000 in
set_option maxHeartbeats 8000000 in
theorem wMul_any (x y : Nat) (hx : x < 18446744073709551616) (hy : y < 18446744073709551616) (w : World) :
    Calls Tryd.prog 62 #[.int .u64 (x : Int), .int .u64 (y : Int)] w fun r w' => r = .returned (.agg #[.int .u64 ((x * y / 18446744073709551616 : Nat) : Int), .int .u64 ((x * y % 18446744073709551616 : Nat) : Int)]) ∧ Below w.heap.size w w' := by
  have q := fun w => Mix.mul64_any x y hx hy w
  obtain ⟨H, hH⟩ : ∃ H : Nat, x * y / 18446744073709551616 = H := ⟨_, rfl⟩
  obtain ⟨L, hL⟩ : ∃ L : Nat, x * y % 18446744073709551616 = L := ⟨_, rfl⟩
  rw [hH, hL] at q ⊢
  clear hH hL hx hy
  obtain ⟨w1, hw1⟩ : ∃ w1, w.alloc (.cells #[.int .u64 0, .int .u64 0] 131) = w1 := ⟨_, rfl⟩
  have hB : Below w.heap.size w w1 := hw1 ▸ (Below.refl _ _).alloc (Nat.le_refl _) _
  have hg : w1.heap[w.heap.size]? = some (.cells #[.int .u64 0, .int .u64 0] 131 (0, 0)) := hw1 ▸ blk_new _ _ _
  have hc0 := blk_cell hg 0
  have hc1 := blk_cell (blk_set hg 0 (.int .u64 (H : Int))) 1
  have hf0 := blk_free hg 0
  have hf1 := blk_free (blk_set hg 0 (.int .u64 (H : Int))) 1
  have hl := blk_set (blk_set hg 0 (.int .u64 (H : Int))) 1 (.int .u64 (L : Int))
  have hB2 := (hB.setCell (p := ⟨w.heap.size, 0, none⟩) (Nat.le_refl _) (.int .u64 (H : Int))).setCell (p := ⟨w.heap.size, 1, none⟩) (Nat.le_refl _) (.int .u64 (L : Int))
  replace q := hide q
  replace hB2 := hide hB2
  replace hl := hide hl
  go_enter Tryd.func62, Tryd.ntmps62
  go_upto_region 1 with fail
  clear hw1 hB hg
  go_wp2_with fail
  refine (q.out w1).mono ?_
  rintro e w' ⟨rfl, rfl⟩
  clear q
  go_wp2_with fail
  have hld : (loadVar 131 ⟨w.heap.size, 0, none⟩).run Tryd.prog ((w1.setCell ⟨w.heap.size, 0, none⟩ (.int .u64 (H : Int))).setCell ⟨w.heap.size, 1, none⟩ (.int .u64 (L : Int))) = .ok (.agg #[.int .u64 (H : Int), .int .u64 (L : Int)]) ((w1.setCell ⟨w.heap.size, 0, none⟩ (.int .u64 (H : Int))).setCell ⟨w.heap.size, 1, none⟩ (.int .u64 (L : Int))) := by
    have k0 := blk_cell hl.out 0
    have k1 := blk_cell hl.out 1
    simp at k0 k1
    go_simp
  exact bodyPost_ret (v := .agg #[.int .u64 (H : Int), .int .u64 (L : Int)]) (by simp [results, Tryd.results62, asAddr, hld, Result.andThen]) rfl ⟨rfl, hB2.out⟩
set_option maxRecDepth 20000 in
set_option maxHeartbeats 8000000 in
theorem bGo_no (g : Nat) (e m h n t : Int) (w : World) (hb : bktAt w g e m h n) (hm : 1 ≤ m) (ht : t < n ∨ 1099511627776 < t) :
    Calls Tryd.prog 22 #[.pointer (some ⟨g, 0, none⟩), .int .i64 t] w fun r w' => r = .returned (.int .i64 5) ∧ w' = w := by
  have q := none_any g e m h n w hb hm
  unfold bktAt at hb
  have hc := blk_cell hb 3
  clear hb hm
  replace q := hide q
  by_cases h1 : t < n
  · clear ht
    go_enter Tryd.func22, Tryd.ntmps22
    go_wp2_with fail
    refine (q.out).mono ?_
    rintro e w1 ⟨rfl, rfl⟩
    clear q
    go_wp2_with fail
    go_ret
    exact ⟨rfl, rfl⟩
  · have h2 : 1099511627776 < t := by omega
    clear ht
    go_enter Tryd.func22, Tryd.ntmps22
    go_wp2_with fail
    refine (q.out).mono ?_
    rintro e w1 ⟨rfl, rfl⟩
    clear q
    go_wp2_with fail
    go_ret
    exact ⟨rfl, rfl⟩
/-- What a bucket has when time has gone by. -/
def goH (e m h n t : Int) : Int := if (t - n) * e ≤ m - h then h + (t - n) * e else m
set_option maxRecDepth 20000 in
set_option maxHeartbeats 8000000 in
theorem bGo_nat (g E M F n T : Nat) (h : Int) (w : World) (hb : bktAt w g (E : Int) (M : Int) h (n : Int)) (hm : 1 ≤ M) (hh : h + (F : Int) = (M : Int)) (h0 : 0 ≤ h) (hE : E ≤ 1099511627776) (hM : M ≤ 1099511627776) (ht : n + T ≤ 1099511627776) :
    Calls Tryd.prog 22 #[.pointer (some ⟨g, 0, none⟩), .int .i64 ((n : Int) + (T : Int))] w fun r w' => r = .returned (.int .i64 0) ∧ w.grownBy w' (some g) ∧ bktAt w' g (E : Int) (M : Int) (if T * E ≤ F then h + ((T * E : Nat) : Int) else (M : Int)) ((n : Int) + (T : Int)) := by
  have q := none_any g E M h n w hb (by omega)
  have qm := fun w => wMul_any T E (by omega) (by omega) w
  obtain ⟨P, hP⟩ : ∃ P : Nat, T * E = P := ⟨_, rfl⟩
  rw [hP] at qm ⊢
  obtain ⟨H, hH⟩ : ∃ H : Nat, P / 18446744073709551616 = H := ⟨_, rfl⟩
  obtain ⟨L, hL⟩ : ∃ L : Nat, P % 18446744073709551616 = L := ⟨_, rfl⟩
  rw [hH, hL] at qm
  unfold bktAt at hb
  have hlt : g < w.heap.size := by
    rcases Nat.lt_or_ge g w.heap.size with h1 | h1
    · exact h1
    · rw [Array.getElem?_eq_none h1] at hb; cases hb
  have h1 : ¬ (n : Int) + (T : Int) < (n : Int) := by omega
  have h2 : ¬ 1099511627776 < (n : Int) + (T : Int) := by omega
  have w1 : IntKind.i64.wrap ((n : Int) + (T : Int) - (n : Int)) = (T : Int) := (wraps62 _ (by omega) (by omega)).trans (by omega)
  have w2 : IntKind.u64.wrap (T : Int) = (T : Int) := by rw [IntKind.wrap_u64]; omega
  have w3 : IntKind.u64.wrap (E : Int) = (E : Int) := by rw [IntKind.wrap_u64]; omega
  have w4 : IntKind.i64.wrap ((M : Int) - h) = (F : Int) := (wraps62 _ (by omega) (by omega)).trans (by omega)
  have w5 : IntKind.u64.wrap (F : Int) = (F : Int) := by rw [IntKind.wrap_u64]; omega
  have hc3 := blk_cell hb 3
  have hcl := fun l : Later w => blk_cell (blk_below l.hb hlt hb)
  have hX1 : P ≤ F → (if P ≤ F then h + (P : Int) else (M : Int)) = h + (P : Int) := fun h => if_pos h
  have hX2 : ¬ P ≤ F → (if P ≤ F then h + (P : Int) else (M : Int)) = (M : Int) := fun h => if_neg h
  obtain ⟨X, hX⟩ : ∃ X, (if P ≤ F then h + (P : Int) else (M : Int)) = X := ⟨_, rfl⟩
  rw [hX] at hX1 hX2 ⊢
  clear hX
  replace q := hide q
  replace hb := hide hb
  replace hX1 := hide hX1
  replace hX2 := hide hX2
  go_enter Tryd.func22, Tryd.ntmps22
  go_wp2_with fail
  refine (q.out).mono ?_
  rintro e wz ⟨rfl, rfl⟩
  clear q
  go_upto_region 5 with fail
  refine wp_region_L (by as_aux_lemma => kernel_rfl) ?_
  refine wpE_seg 0 14 (fuel := 2) (by as_aux_lemma => kernel_rfl) (fun d _ _ _ _ h => by cases d <;> exact h) (by as_aux_lemma => kernel_rfl) (by as_aux_lemma => kernel_rfl) ?_
  simp only [List.drop_zero, List.take_succ_cons, List.take_zero]
  iterate 13 (refine wpQE_step (fun K hK => ?_); go_simp; refine hK _ ?_; clear hK K)
  (refine wpQE_step (fun K hK => ?_); go_simp; apply Exists.intro; refine ⟨fun l => ?_, hK _ ?_⟩; (go_at_call 62; refine (qm l.w).mono ?_; rintro e w' ⟨rfl, hb⟩; exact ⟨rfl, hb⟩); clear hK K)
  refine wpQE_nil ?_
  clear hcl qm
  refine wpE_step 14 (fuel := 1) rfl (by as_aux_lemma => kernel_rfl) (fun l K hK => ?_)
  go_simp
  obtain ⟨S, hS⟩ : ∃ S, l.w.heap.size = S := ⟨_, rfl⟩
  obtain ⟨wa, hwa⟩ : ∃ wa, l.w.alloc (.cells #[.int .u64 0, .int .u64 0] 131) = wa := ⟨_, rfl⟩
  have hba : Below l.w.heap.size l.w wa := hwa ▸ (Below.refl _ _).alloc (Nat.le_refl _) _
  have hga : wa.heap[S]? = some (.cells #[.int .u64 0, .int .u64 0] 131 (0, 0)) := hS ▸ hwa ▸ blk_new _ _ _
  have hza : S < wa.heap.size := by rw [← hwa, ← hS]; simp
  have hzS : wz.heap.size ≤ S := hS ▸ l.hb.size
  have hB1 : Below wz.heap.size wz wa := l.hb.trans (hba.mono l.hb.size)
  rw [hwa, hS]
  refine hK _ _ hba ?_
  clear hK K hwa hS hba
  refine wpE_end (by as_aux_lemma => kernel_rfl) (fun l2 => ?_)
  have hg2 := blk_below l2.hb hza hga
  have hB2 := hB1.trans (l2.hb.mono hB1.size)
  have c0 := blk_cell hg2 0
  have c1 := blk_cell (blk_set hg2 0 (.int .u64 (H : Int))) 1
  have f0 := blk_free hg2 0
  have f1 := blk_free (blk_set hg2 0 (.int .u64 (H : Int))) 1
  have hg3 := blk_set (blk_set hg2 0 (.int .u64 (H : Int))) 1 (.int .u64 (L : Int))
  have hB3 := (hB2.setCell (p := ⟨S, 0, none⟩) hzS (.int .u64 (H : Int))).setCell (p := ⟨S, 1, none⟩) hzS (.int .u64 (L : Int))
  clear hg2 hB2 hga hza hB1
  replace hg3 := hide hg3
  replace hB3 := hide hB3
  refine wpT_step 15 rfl (by as_aux_lemma => kernel_rfl) (fun K hK => ?_)
  go_simp
  refine hK _ _ ?_
  clear hK K
  refine wpT_done (by as_aux_lemma => kernel_rfl) ?_ 0
  clear c0 c1 f0 f1
  obtain ⟨w9, e9⟩ : ∃ w9, (l2.w.setCell ⟨S, 0, none⟩ (.int .u64 (H : Int))).setCell ⟨S, 1, none⟩ (.int .u64 (L : Int)) = w9 := ⟨_, rfl⟩
  rw [e9] at hg3 hB3 ⊢
  clear e9
  have hg3 : w9.heap[S]? = some (.cells #[.int .u64 (H : Int), .int .u64 (L : Int)] 131 (0, 0)) := hg3.out
  have hb9 := blk_below hB3.out hlt hb.out
  have hlt9 : g < w9.heap.size := Nat.lt_of_lt_of_le hlt hB3.out.size
  have hcl := fun l : Later w9 => blk_cell (blk_below l.hb hlt9 hb9)
  have hSz : S < w9.heap.size := by
    rcases Nat.lt_or_ge S w9.heap.size with h1 | h1
    · exact h1
    · rw [Array.getElem?_eq_none h1] at hg3; cases hg3
  clear hb hc3
  replace hg3 := hide hg3
  replace hb9 := hide hb9
  go_upto_region 6 with fail
  refine wp_region_L (by as_aux_lemma => kernel_rfl) ?_
  refine wpE_seg 0 12 (fuel := 0) (by as_aux_lemma => kernel_rfl) (fun d _ _ _ _ h => by cases d <;> exact h) (by as_aux_lemma => kernel_rfl) (by as_aux_lemma => kernel_rfl) ?_
  simp only [List.drop_zero, List.take_succ_cons, List.take_zero]
  iterate 12 (refine wpQE_step (fun K hK => ?_); go_simp; refine hK _ ?_; clear hK K)
  refine wpQE_nil ?_
  refine wpE_done (by as_aux_lemma => kernel_rfl) (fun w10 hb10 => ?_) 0
  have hB10 := hB3.out.trans (hb10.mono hB3.out.size)
  have hbk := blk_below hb10 hlt9 hb9.out
  have hgS := blk_below hb10 hSz hg3.out
  have hlt10 : g < w10.heap.size := Nat.lt_of_lt_of_le hlt9 hb10.size
  have hSz10 : S < w10.heap.size := Nat.lt_of_lt_of_le hSz hb10.size
  clear hcl hb9 hg3 hb10 hB3 hlt9 hSz hlt
  have k0 := blk_cell hgS 0
  have k1 := blk_cell hgS 1
  have hgr : wz.grownBy w10 (some g) := grownBy_of hB10
  by_cases x1 : 0 < (H : Int)
  · have hno : ¬ P ≤ F := by omega
    obtain rfl : X = (M : Int) := hX2.out hno
    clear hX1 hX2
    have c1 := blk_cell hbk 1
    have c2 := blk_cell hbk 2
    have f2 := blk_free hbk 2
    have c3 := blk_cell (blk_set hbk 2 (.int .i64 (M : Int))) 3
    have f3 := blk_free (blk_set hbk 2 (.int .i64 (M : Int))) 3
    have hend := blk_set (blk_set hbk 2 (.int .i64 (M : Int))) 3 (.int .i64 ((n : Int) + (T : Int)))
    have hge := grown_set (p := ⟨g, 3, none⟩) (grown_set (p := ⟨g, 2, none⟩) hgr rfl (.int .i64 (M : Int))) rfl (.int .i64 ((n : Int) + (T : Int)))
    clear hbk hgr hgS hB10 hH hL hP hno
    replace hend := hide hend
    replace hge := hide hge
    go_wp2_with fail
    go_ret
    exact ⟨rfl, hge.out, hend.out⟩
  by_cases x2 : (F : Int) < (L : Int)
  · have hno : ¬ P ≤ F := by omega
    obtain rfl : X = (M : Int) := hX2.out hno
    clear hX1 hX2
    have c1 := blk_cell hbk 1
    have c2 := blk_cell hbk 2
    have f2 := blk_free hbk 2
    have c3 := blk_cell (blk_set hbk 2 (.int .i64 (M : Int))) 3
    have f3 := blk_free (blk_set hbk 2 (.int .i64 (M : Int))) 3
    have hend := blk_set (blk_set hbk 2 (.int .i64 (M : Int))) 3 (.int .i64 ((n : Int) + (T : Int)))
    have hge := grown_set (p := ⟨g, 3, none⟩) (grown_set (p := ⟨g, 2, none⟩) hgr rfl (.int .i64 (M : Int))) rfl (.int .i64 ((n : Int) + (T : Int)))
    clear hbk hgr hgS hB10 hH hL hP hno
    replace hend := hide hend
    replace hge := hide hge
    go_wp2_with fail
    go_ret
    exact ⟨rfl, hge.out, hend.out⟩
  · have hyes : P ≤ F := by omega
    obtain rfl : L = P := by omega
    obtain rfl : X = h + (L : Int) := hX1.out hyes
    clear hX1 hX2
    have w6 : IntKind.i64.wrap (L : Int) = (L : Int) := wraps62 _ (by omega) (by omega)
    have w7 : IntKind.i64.wrap (h + (L : Int)) = h + (L : Int) := wraps62 _ (by omega) (by omega)
    have hcl := fun l : Later w10 => blk_cell (blk_below l.hb hlt10 hbk)
    have hcS := fun l : Later w10 => blk_cell (blk_below l.hb hSz10 hgS)
    clear hH hL hP hyes hgS
    replace hbk := hide hbk
    replace hgr := hide hgr
    replace hB10 := hide hB10
    go_upto_region 9 with fail
    clear k0 k1
    refine wp_region_L (by as_aux_lemma => kernel_rfl) ?_
    refine wpE_seg 0 10 (fuel := 1) (by as_aux_lemma => kernel_rfl) (fun d _ _ _ _ h => by cases d <;> exact h) (by as_aux_lemma => kernel_rfl) (by as_aux_lemma => kernel_rfl) ?_
    simp only [List.drop_zero, List.take_succ_cons, List.take_zero]
    iterate 10 (refine wpQE_step (fun K hK => ?_); go_simp; refine hK _ ?_; clear hK K)
    refine wpQE_nil ?_
    clear hcl hcS
    refine wpE_end (by as_aux_lemma => kernel_rfl) (fun l3 => ?_)
    have hbk := blk_below l3.hb hlt10 hbk.out
    have hgr : wz.grownBy l3.w (some g) := grownBy_of (hB10.out.trans (l3.hb.mono hB10.out.size))
    have c2 := blk_cell hbk 2
    have f2 := blk_free hbk 2
    have c3 := blk_cell (blk_set hbk 2 (.int .i64 (h + (L : Int)))) 3
    have f3 := blk_free (blk_set hbk 2 (.int .i64 (h + (L : Int)))) 3
    have hend := blk_set (blk_set hbk 2 (.int .i64 (h + (L : Int)))) 3 (.int .i64 ((n : Int) + (T : Int)))
    have hge := grown_set (p := ⟨g, 3, none⟩) (grown_set (p := ⟨g, 2, none⟩) hgr rfl (.int .i64 (h + (L : Int)))) rfl (.int .i64 ((n : Int) + (T : Int)))
    clear hbk hgr hB10
    replace hend := hide hend
    replace hge := hide hge
    refine wpT_step 10 rfl (by as_aux_lemma => kernel_rfl) (fun K hK => ?_)
    go_simp
    refine hK _ _ ?_
    clear hK K
    refine wpT_done (by as_aux_lemma => kernel_rfl) ?_ 0
    go_wp2_with fail
    go_ret
    exact ⟨rfl, hge.out, hend.out⟩
end Addr05
end Go.Proofs.YtbcicbiphgeghaaDoor
/- rate: Wait. Conditions: numbers in range. -/
namespace Go.Proofs.YtbcicbiphgeghaaDoor
open Go.RowKit Go.ChangeShapes Go.WideShapes Go.ChangeAt Go.Deep
namespace Addr05
/-- When a bucket has so many. -/
def waitF (e m h n k : Int) : Int :=
  if k < 0 ∨ m < k then -1 else if k ≤ h then n else if e = 0 then -1 else if 1099511627776 < n + (k - h - 1) / e + 1 then -1 else n + (k - h - 1) / e + 1
set_option maxRecDepth 20000 in
set_option maxHeartbeats 8000000 in
theorem bWait_any (g : Nat) (e m h n k : Int) (w : World) (hb : bktAt w g e m h n) (hm : 1 ≤ m) (h0 : 0 ≤ h) (hhm : h ≤ m) (hm2 : m ≤ 1099511627776) (he : 0 ≤ e) (he2 : e ≤ 1099511627776) (hn0 : 0 ≤ n) (hn : n ≤ 1099511627776) :
    Calls Tryd.prog 27 #[.pointer (some ⟨g, 0, none⟩), .int .i64 k] w fun r w' => r = .returned (.int .i64 (waitF e m h n k)) ∧ Below w.heap.size w w' := by
  have q := none_any g e m h n w hb hm
  unfold bktAt at hb
  have hlt : g < w.heap.size := by
    rcases Nat.lt_or_ge g w.heap.size with h1 | h1
    · exact h1
    · rw [Array.getElem?_eq_none h1] at hb; cases hb
  have c1 := blk_cell hb 1
  obtain ⟨X, hX⟩ : ∃ X, waitF e m h n k = X := ⟨_, rfl⟩
  rw [hX]
  unfold waitF at hX
  by_cases h1 : k < 0
  · rw [if_pos (Or.inl h1)] at hX
    subst hX
    clear hb
    replace q := hide q
    go_enter Tryd.func27, Tryd.ntmps27
    go_wp2_with fail
    refine (q.out).mono ?_
    rintro e w1 ⟨rfl, rfl⟩
    clear q
    go_wp2_with fail
    go_ret
    exact ⟨rfl, Below.refl _ _⟩
  by_cases h2 : m < k
  · rw [if_pos (Or.inr h2)] at hX
    subst hX
    clear hb
    replace q := hide q
    go_enter Tryd.func27, Tryd.ntmps27
    go_wp2_with fail
    refine (q.out).mono ?_
    rintro e w1 ⟨rfl, rfl⟩
    clear q
    go_wp2_with fail
    go_ret
    exact ⟨rfl, Below.refl _ _⟩
  rw [if_neg (by omega)] at hX
  have c2 := blk_cell hb 2
  have c3 := blk_cell hb 3
  by_cases h3 : k ≤ h
  · rw [if_pos h3] at hX
    subst hX
    clear hb
    replace q := hide q
    go_enter Tryd.func27, Tryd.ntmps27
    go_wp2_with fail
    refine (q.out).mono ?_
    rintro e w1 ⟨rfl, rfl⟩
    clear q
    go_wp2_with fail
    go_ret
    exact ⟨rfl, Below.refl _ _⟩
  rw [if_neg h3] at hX
  have c0 := blk_cell hb 0
  by_cases h4 : e = 0
  · rw [if_pos h4] at hX
    subst hX h4
    clear hb
    replace q := hide q
    go_enter Tryd.func27, Tryd.ntmps27
    go_wp2_with fail
    refine (q.out).mono ?_
    rintro e w1 ⟨rfl, rfl⟩
    clear q
    go_wp2_with fail
    go_ret
    exact ⟨rfl, Below.refl _ _⟩
  rw [if_neg h4] at hX
  have hdiv : Int.tdiv (k - h - 1) e = (k - h - 1) / e := Int.tdiv_eq_ediv_of_nonneg (by omega)
  have hd1 : 0 ≤ (k - h - 1) / e := Int.ediv_nonneg (by omega) he
  have hd2 : (k - h - 1) / e ≤ k - h - 1 := Int.ediv_le_self _ (by omega)
  have w1 : IntKind.i64.wrap (k - h) = k - h := wraps62 _ (by omega) (by omega)
  have w2 : IntKind.i64.wrap (k - h - 1) = k - h - 1 := wraps62 _ (by omega) (by omega)
  obtain ⟨D, hD⟩ : ∃ D, (k - h - 1) / e = D := ⟨_, rfl⟩
  rw [hD] at hdiv hd1 hd2 hX
  have w3 : IntKind.i64.wrap D = D := wraps62 _ (by omega) (by omega)
  have w4 : IntKind.i64.wrap (n + D) = n + D := wraps62 _ (by omega) (by omega)
  have w5 : IntKind.i64.wrap (n + D + 1) = n + D + 1 := wraps62 _ (by omega) (by omega)
  have he0 : (e == 0) = false := by simpa using h4
  have hcl := fun l : Later w => blk_cell (blk_below l.hb hlt hb)
  clear hb hD
  replace q := hide q
  by_cases h5 : 1099511627776 < n + D + 1
  · rw [if_pos h5] at hX
    subst hX
    go_enter Tryd.func27, Tryd.ntmps27
    go_wp2_with fail
    refine (q.out).mono ?_
    rintro e wz ⟨rfl, rfl⟩
    clear q
    go_upto_region 7 with fail
    refine wp_region_L (by as_aux_lemma => kernel_rfl) ?_
    refine wpE_seg 0 20 (fuel := 0) (by as_aux_lemma => kernel_rfl) (fun d _ _ _ _ h => by cases d <;> exact h) (by as_aux_lemma => kernel_rfl) (by as_aux_lemma => kernel_rfl) ?_
    simp only [List.drop_zero, List.take_succ_cons, List.take_zero]
    iterate 20 (refine wpQE_step (fun K hK => ?_); go_simp; refine hK _ ?_; clear hK K)
    refine wpQE_nil ?_
    refine wpE_done (by as_aux_lemma => kernel_rfl) (fun w9 hb9 => ?_) 0
    clear hcl c0 c1 c2 c3
    go_wp2_with fail
    go_ret
    exact ⟨rfl, hb9⟩
  · rw [if_neg h5] at hX
    subst hX
    go_enter Tryd.func27, Tryd.ntmps27
    go_wp2_with fail
    refine (q.out).mono ?_
    rintro e wz ⟨rfl, rfl⟩
    clear q
    go_upto_region 7 with fail
    refine wp_region_L (by as_aux_lemma => kernel_rfl) ?_
    refine wpE_seg 0 20 (fuel := 0) (by as_aux_lemma => kernel_rfl) (fun d _ _ _ _ h => by cases d <;> exact h) (by as_aux_lemma => kernel_rfl) (by as_aux_lemma => kernel_rfl) ?_
    simp only [List.drop_zero, List.take_succ_cons, List.take_zero]
    iterate 20 (refine wpQE_step (fun K hK => ?_); go_simp; refine hK _ ?_; clear hK K)
    refine wpQE_nil ?_
    refine wpE_done (by as_aux_lemma => kernel_rfl) (fun w9 hb9 => ?_) 0
    clear hcl c0 c1 c2 c3
    go_wp2_with fail
    go_ret
    exact ⟨rfl, hb9⟩
end Addr05
end Go.Proofs.YtbcicbiphgeghaaDoor
/- limit: none, Of. Conditions: numbers of 64 bits. -/
namespace Go.Proofs.YtbcicbiphgeghaaDoor
open Go.RowKit Go.ChangeShapes Go.WideShapes Go.ChangeAt Go.Deep
namespace Addr05
/-- What the trie finds: the mark of the longest prefix, and its bits. -/
def fnd (M : Keys) (a : Adr) : Option (Int × Nat) := if rightB a.v6 a.hi a.lo = true then best (fun j => M (pkey a j)) (a.w + 1) else none
/-- The place of the rule under which an address falls, or -1. -/
def ofL (r : Option (Int × Nat)) : Int := match r with | none => -1 | some p => p.1
theorem find_any (g : Nat) (a : Adr) (ho : a.ok) (w : World) (N : Nodes) (M : Keys) (n : Int) (hT : TrieAt w g N M n) :
    Calls Tryd.prog 59 #[.pointer (some ⟨g, 0, none⟩), .agg #[.bool a.v6, .int .u64 (a.hi : Int), .int .u64 (a.lo : Int)]] w fun e w' => e = .returned (.tuple #[.int .i64 (fV (fnd M a)), .int .i64 (fN (fnd M a)), .bool (fnd M a).isSome]) ∧ Below w.heap.size w w' := by
  unfold fnd
  by_cases h : rightB a.v6 a.hi a.lo = true
  · rw [if_pos h]
    exact find_yes g a ho h w N M n hT
  · rw [if_neg h]
    exact find_no g a (by simpa using h) w
/-- The cells of limits. -/
def limAt (w : World) (x tg : Nat) (rs bs : Value) (now : Int) : Prop := w.heap[x]? = some (.cells #[.pointer (some ⟨tg, 0, none⟩), rs, bs, .int .i64 now] 47 (0, 0))
set_option maxRecDepth 20000 in
set_option maxHeartbeats 8000000 in
theorem lnone_any (x tg : Nat) (rs bs : Value) (now : Int) (w : World) (h : limAt w x tg rs bs now) :
    Calls Tryd.prog 58 #[.pointer (some ⟨x, 0, none⟩)] w fun r w' => r = .returned (.bool false) ∧ w' = w := by
  unfold limAt at h
  have c0 := blk_cell h 0
  clear h
  go_enter Tryd.func58, Tryd.ntmps58
  go_wp2_with fail
  go_ret
  exact ⟨rfl, rfl⟩
theorem lnone_nil (w : World) :
    Calls Tryd.prog 58 #[.pointer none] w fun r w' => r = .returned (.bool true) ∧ w' = w := by
  go_enter Tryd.func58, Tryd.ntmps58
  go_wp2_with fail
  go_ret
  exact ⟨rfl, rfl⟩
theorem lnone_zero (x : Nat) (rs bs : Value) (now : Int) (w : World) (h : w.heap[x]? = some (.cells #[.pointer none, rs, bs, .int .i64 now] 47 (0, 0))) :
    Calls Tryd.prog 58 #[.pointer (some ⟨x, 0, none⟩)] w fun r w' => r = .returned (.bool true) ∧ w' = w := by
  have c0 := blk_cell h 0
  clear h
  go_enter Tryd.func58, Tryd.ntmps58
  go_wp2_with fail
  go_ret
  exact ⟨rfl, rfl⟩
theorem lt_of_blk {w : World} {g : Nat} {o : Obj} (h : w.heap[g]? = some o) : g < w.heap.size := by
  rcases Nat.lt_or_ge g w.heap.size with h1 | h1
  · exact h1
  · rw [Array.getElem?_eq_none h1] at h; cases h
set_option maxRecDepth 20000 in
set_option maxHeartbeats 8000000 in
theorem lOf_any (x tg : Nat) (rs bs : Value) (now : Int) (a : Adr) (ho : a.ok) (w : World) (N : Nodes) (M : Keys) (n : Int) (h : limAt w x tg rs bs now) (hT : TrieAt w tg N M n) :
    Calls Tryd.prog 16 #[.pointer (some ⟨x, 0, none⟩), .agg #[.bool a.v6, .int .u64 (a.hi : Int), .int .u64 (a.lo : Int)]] w fun r w' => r = .returned (.int .i64 (ofL (fnd M a))) ∧ Below w.heap.size w w' := by
  have qn := fun w' (hb : Below w.heap.size w w') => lnone_any x tg rs bs now w' (blk_below hb (lt_of_blk h) h)
  have qf := fun w' (hb : Below w.heap.size w w') => find_any tg a ho w' N M n (hT.below hb)
  unfold limAt at h
  have hx := lt_of_blk h
  obtain ⟨r, hr⟩ : ∃ r, fnd M a = r := ⟨_, rfl⟩
  rw [hr] at qf ⊢
  clear hr hT
  obtain ⟨v6, hi, lo⟩ := a
  dsimp only at qf ⊢
  obtain ⟨w1, hw1⟩ : ∃ w1, w.alloc (.cells #[.bool v6, .int .u64 (hi : Int), .int .u64 (lo : Int)] 26) = w1 := ⟨_, rfl⟩
  have hg : w1.heap[w.heap.size]? = some (.cells #[.bool v6, .int .u64 (hi : Int), .int .u64 (lo : Int)] 26 (0, 0)) := hw1 ▸ blk_new _ _ _
  have hz : w.heap.size < w1.heap.size := by rw [← hw1]; simp
  have hB : Below w.heap.size w w1 := hw1 ▸ (Below.refl _ _).alloc (Nat.le_refl _) _
  have hx1 := blk_below hB hx h
  have hxz : x < w1.heap.size := by omega
  have q1 := qn w1 hB
  have q2 := fun l : Later w1 => qf l.w (hB.trans (l.hb.mono hB.size))
  have hcx := fun l : Later w1 => blk_cell (blk_below l.hb hxz hx1) 0
  have hcg := fun l : Later w1 => blk_cell (blk_below l.hb hz hg)
  clear qn qf h hx hx1 hxz hg hz ho
  replace q1 := hide q1
  replace q2 := hide q2
  replace hB := hide hB
  cases r with
  | none =>
    dsimp only [fV, fN, ofL, Option.isSome] at q2 ⊢
    go_enter Tryd.func16, Tryd.ntmps16
    go_upto_region 1 with fail
    clear hw1
    go_wp2_with fail
    refine (q1.out).mono ?_
    rintro e w2 ⟨rfl, rfl⟩
    clear q1
    go_upto_region 3 with fail
    refine wp_region_L (by as_aux_lemma => kernel_rfl) ?_
    refine wpE_seg 0 13 (fuel := 0) (by as_aux_lemma => kernel_rfl) (fun d _ _ _ _ h => by cases d <;> exact h) (by as_aux_lemma => kernel_rfl) (by as_aux_lemma => kernel_rfl) ?_
    simp only [List.drop_zero, List.take_succ_cons, List.take_zero]
    iterate 5 (refine wpQE_step (fun K hK => ?_); go_simp; refine hK _ ?_; clear hK K)
    (refine wpQE_step (fun K hK => ?_); go_simp; apply Exists.intro; refine ⟨fun l => ?_, hK _ ?_⟩; (go_at_call 59; refine (q2.out l).mono ?_; rintro e w' ⟨rfl, hb⟩; exact ⟨rfl, hb⟩); clear hK K)
    iterate 7 (refine wpQE_step (fun K hK => ?_); go_simp; refine hK _ ?_; clear hK K)
    refine wpQE_nil ?_
    refine wpE_done (by as_aux_lemma => kernel_rfl) (fun w3 hb3 => ?_) 0
    have hB3 := hB.out.trans (hb3.mono hB.out.size)
    clear hcx hcg hb3 hB q2
    replace hB3 := hide hB3
    go_wp2_with fail
    go_ret
    exact ⟨rfl, hB3.out⟩
  | some p =>
    obtain ⟨v, k⟩ := p
    dsimp only [fV, fN, ofL, Option.isSome] at q2 ⊢
    go_enter Tryd.func16, Tryd.ntmps16
    go_upto_region 1 with fail
    clear hw1
    go_wp2_with fail
    refine (q1.out).mono ?_
    rintro e w2 ⟨rfl, rfl⟩
    clear q1
    go_upto_region 3 with fail
    refine wp_region_L (by as_aux_lemma => kernel_rfl) ?_
    refine wpE_seg 0 13 (fuel := 0) (by as_aux_lemma => kernel_rfl) (fun d _ _ _ _ h => by cases d <;> exact h) (by as_aux_lemma => kernel_rfl) (by as_aux_lemma => kernel_rfl) ?_
    simp only [List.drop_zero, List.take_succ_cons, List.take_zero]
    iterate 5 (refine wpQE_step (fun K hK => ?_); go_simp; refine hK _ ?_; clear hK K)
    (refine wpQE_step (fun K hK => ?_); go_simp; apply Exists.intro; refine ⟨fun l => ?_, hK _ ?_⟩; (go_at_call 59; refine (q2.out l).mono ?_; rintro e w' ⟨rfl, hb⟩; exact ⟨rfl, hb⟩); clear hK K)
    iterate 7 (refine wpQE_step (fun K hK => ?_); go_simp; refine hK _ ?_; clear hK K)
    refine wpQE_nil ?_
    refine wpE_done (by as_aux_lemma => kernel_rfl) (fun w3 hb3 => ?_) 0
    have hB3 := hB.out.trans (hb3.mono hB.out.size)
    clear hcx hcg hb3 hB q2
    replace hB3 := hide hB3
    go_wp2_with fail
    go_ret
    exact ⟨rfl, hB3.out⟩
end Addr05
end Go.Proofs.YtbcicbiphgeghaaDoor
/- limit: Take, Wait, Have at one bucket. Conditions: numbers in range. -/
namespace Go.Proofs.YtbcicbiphgeghaaDoor
open Go.RowKit Go.ChangeShapes Go.WideShapes Go.ChangeAt Go.Deep
namespace Addr05
set_option maxRecDepth 20000 in
set_option maxHeartbeats 8000000 in
theorem lTake_neg (x tg : Nat) (rs bs : Value) (now k : Int) (hk : k < 0) (v6 : Bool) (hi lo : Int) (w : World) (h : limAt w x tg rs bs now) :
    Calls Tryd.prog 25 #[.pointer (some ⟨x, 0, none⟩), .agg #[.bool v6, .int .u64 hi, .int .u64 lo], .int .i64 k] w fun r w' => r = .returned (.bool false) ∧ Below w.heap.size w w' := by
  obtain ⟨w1, hw1⟩ : ∃ w1, w.alloc (.cells #[.bool v6, .int .u64 hi, .int .u64 lo] 26) = w1 := ⟨_, rfl⟩
  have hB : Below w.heap.size w w1 := hw1 ▸ (Below.refl _ _).alloc (Nat.le_refl _) _
  have q1 := lnone_any x tg rs bs now w1 (blk_below hB (lt_of_blk h) h)
  clear h
  replace q1 := hide q1
  replace hB := hide hB
  go_enter Tryd.func25, Tryd.ntmps25
  go_upto_region 1 with fail
  clear hw1
  go_wp2_with fail
  refine (q1.out).mono ?_
  rintro e w2 ⟨rfl, rfl⟩
  clear q1
  go_wp2_with fail
  go_ret
  exact ⟨rfl, hB.out⟩
set_option maxRecDepth 20000 in
set_option maxHeartbeats 8000000 in
theorem lTake_none (x tg : Nat) (rs bs : Value) (now k : Int) (hk : 0 ≤ k) (a : Adr) (ho : a.ok) (w : World) (N : Nodes) (M : Keys) (n : Int) (h : limAt w x tg rs bs now) (hT : TrieAt w tg N M n) (hf : ofL (fnd M a) = -1) :
    Calls Tryd.prog 25 #[.pointer (some ⟨x, 0, none⟩), .agg #[.bool a.v6, .int .u64 (a.hi : Int), .int .u64 (a.lo : Int)], .int .i64 k] w fun r w' => r = .returned (.bool true) ∧ Below w.heap.size w w' := by
  obtain ⟨w1, hw1⟩ : ∃ w1, w.alloc (.cells #[.bool a.v6, .int .u64 (a.hi : Int), .int .u64 (a.lo : Int)] 26) = w1 := ⟨_, rfl⟩
  have hB : Below w.heap.size w w1 := hw1 ▸ (Below.refl _ _).alloc (Nat.le_refl _) _
  have hg : w1.heap[w.heap.size]? = some (.cells #[.bool a.v6, .int .u64 (a.hi : Int), .int .u64 (a.lo : Int)] 26 (0, 0)) := hw1 ▸ blk_new _ _ _
  have h1 : limAt w1 x tg rs bs now := blk_below hB (lt_of_blk h) h
  have q1 := lnone_any x tg rs bs now w1 h1
  have q2 := lOf_any x tg rs bs now a ho w1 N M n h1 (hT.below hB)
  rw [hf] at q2
  have c0 := blk_cell hg 0
  have c1 := blk_cell hg 1
  have c2 := blk_cell hg 2
  clear h h1 hT hf hg ho
  obtain ⟨v6, hi, lo⟩ := a
  dsimp only at q2 c0 c1 c2 hw1 ⊢
  have hk' : ¬ k < 0 := by omega
  clear hk
  replace q1 := hide q1
  replace q2 := hide q2
  replace hB := hide hB
  go_enter Tryd.func25, Tryd.ntmps25
  go_upto_region 1 with fail
  clear hw1
  go_wp2_with fail
  refine (q1.out).mono ?_
  rintro e w2 ⟨rfl, rfl⟩
  clear q1
  go_wp2_with fail
  refine (q2.out).mono ?_
  rintro e w3 ⟨rfl, hb3⟩
  have hB3 := hB.out.trans (hb3.mono hB.out.size)
  clear q2 hB hb3 c0 c1 c2
  replace hB3 := hide hB3
  go_wp2_with fail
  go_ret
  exact ⟨rfl, hB3.out⟩
set_option maxRecDepth 20000 in
set_option maxHeartbeats 8000000 in
theorem lTake_some (x tg q c j l g : Nat) (rs : Value) (cs : Array Value) (now k e m hh nn : Int) (hk : 0 ≤ k) (a : Adr) (ho : a.ok) (w : World) (N : Nodes) (M : Keys) (n : Int) (h : limAt w x tg rs (.slice (some ⟨q, 0, none⟩) l c) now) (hT : TrieAt w tg N M n) (hf : ofL (fnd M a) = (j : Int))
    (hq : w.heap[q]? = some (.cells cs 52 (0, 0))) (hj : cs[j]? = some (.pointer (some ⟨g, 0, none⟩))) (hjl : j < l) (hl : l ≤ 1099511627776) (hb : bktAt w g e m hh nn) (hm : 1 ≤ m) (hhm : hh ≤ 1099511627776) :
    Calls Tryd.prog 25 #[.pointer (some ⟨x, 0, none⟩), .agg #[.bool a.v6, .int .u64 (a.hi : Int), .int .u64 (a.lo : Int)], .int .i64 k] w fun r w' => r = .returned (.bool (decide (0 ≤ k ∧ k ≤ hh))) ∧ w.grownBy w' (some g) ∧ bktAt w' g e m (if 0 ≤ k ∧ k ≤ hh then hh - k else hh) nn := by
  obtain ⟨w1, hw1⟩ : ∃ w1, w.alloc (.cells #[.bool a.v6, .int .u64 (a.hi : Int), .int .u64 (a.lo : Int)] 26) = w1 := ⟨_, rfl⟩
  have hB : Below w.heap.size w w1 := hw1 ▸ (Below.refl _ _).alloc (Nat.le_refl _) _
  have hg : w1.heap[w.heap.size]? = some (.cells #[.bool a.v6, .int .u64 (a.hi : Int), .int .u64 (a.lo : Int)] 26 (0, 0)) := hw1 ▸ blk_new _ _ _
  have h1 : limAt w1 x tg rs (.slice (some ⟨q, 0, none⟩) l c) now := blk_below hB (lt_of_blk h) h
  have hq1 := blk_below hB (lt_of_blk hq) hq
  have hb1 : bktAt w1 g e m hh nn := blk_below hB (lt_of_blk hb) hb
  have q1 := lnone_any x tg rs _ now w1 h1
  have q2 := lOf_any x tg rs _ now a ho w1 N M n h1 (hT.below hB)
  rw [hf] at q2
  have c0 := blk_cell hg 0
  have c1 := blk_cell hg 1
  have c2 := blk_cell hg 2
  obtain ⟨Y, hY⟩ : ∃ Y, decide (0 ≤ k ∧ k ≤ hh) = Y := ⟨_, rfl⟩
  obtain ⟨Z, hZ⟩ : ∃ Z, (if 0 ≤ k ∧ k ≤ hh then hh - k else hh) = Z := ⟨_, rfl⟩
  have q3 := fun w' hbk => bTake_any g e m hh nn k w' hbk hm hhm
  rw [hY, hZ] at q3 ⊢
  clear h hT hf hg ho hY hZ hq hb hm hhm
  obtain ⟨v6, hi, lo⟩ := a
  dsimp only at q2 c0 c1 c2 hw1 ⊢
  have hk' : ¬ k < 0 := by omega
  have hj0 : ¬ (j : Int) < 0 := by omega
  clear hk
  replace q1 := hide q1
  replace q2 := hide q2
  replace q3 := hide q3
  replace hB := hide hB
  replace h1 := hide h1
  replace hq1 := hide hq1
  replace hb1 := hide hb1
  go_enter Tryd.func25, Tryd.ntmps25
  go_upto_region 1 with fail
  clear hw1
  go_wp2_with fail
  refine (q1.out).mono ?_
  rintro e w2 ⟨rfl, rfl⟩
  clear q1
  go_wp2_with fail
  refine (q2.out).mono ?_
  rintro e w3 ⟨rfl, hb3⟩
  have hB3 := hB.out.trans (hb3.mono hB.out.size)
  have h3 : limAt w3 x tg rs (.slice (some ⟨q, 0, none⟩) l c) now := blk_below hb3 (lt_of_blk h1.out) h1.out
  have hq3 := blk_cell (blk_below hb3 (lt_of_blk hq1.out) hq1.out) j
  rw [hj] at hq3
  have hb3 : bktAt w3 g e m hh nn := blk_below hb3 (lt_of_blk hb1.out) hb1.out
  unfold limAt at h3
  have c2' := blk_cell h3 2
  clear q2 hB c0 c1 c2 h3 h1 hq1 hb1 hj
  replace hB3 := hide hB3
  replace hb3 := hide hb3
  go_wp2_with fail
  refine (q3.out _ hb3.out).mono ?_
  rintro e w4 ⟨rfl, hg4, hb4⟩
  clear q3
  have hfr := grownBy_of (g := g) hB3.out
  have hge : w.grownBy w4 (some g) := ⟨hg4.os.trans hfr.os, hg4.tape.trans hfr.tape, hg4.output.trans hfr.output, Nat.le_trans hfr.size hg4.size, fun i hi hne => (hg4.block i (Nat.lt_of_lt_of_le hi hfr.size) hne).trans (hfr.block i hi hne)⟩
  clear hg4 hfr
  replace hge := hide hge
  replace hb4 := hide hb4
  go_wp2_with fail
  go_ret
  exact ⟨rfl, hge.out, hb4.out⟩
end Addr05
end Go.Proofs.YtbcicbiphgeghaaDoor
/- limit: Wait, Have at one bucket. Conditions: numbers in range. -/
namespace Go.Proofs.YtbcicbiphgeghaaDoor
open Go.RowKit Go.ChangeShapes Go.WideShapes Go.ChangeAt Go.Deep
namespace Addr05
set_option maxRecDepth 20000 in
set_option maxHeartbeats 8000000 in
theorem lWait_neg (x tg : Nat) (rs bs : Value) (now k : Int) (hk : k < 0) (v6 : Bool) (hi lo : Int) (w : World) (h : limAt w x tg rs bs now) :
    Calls Tryd.prog 28 #[.pointer (some ⟨x, 0, none⟩), .agg #[.bool v6, .int .u64 hi, .int .u64 lo], .int .i64 k] w fun r w' => r = .returned (.int .i64 (-1)) ∧ Below w.heap.size w w' := by
  obtain ⟨w1, hw1⟩ : ∃ w1, w.alloc (.cells #[.bool v6, .int .u64 hi, .int .u64 lo] 26) = w1 := ⟨_, rfl⟩
  have hB : Below w.heap.size w w1 := hw1 ▸ (Below.refl _ _).alloc (Nat.le_refl _) _
  have q1 := lnone_any x tg rs bs now w1 (blk_below hB (lt_of_blk h) h)
  clear h
  replace q1 := hide q1
  replace hB := hide hB
  go_enter Tryd.func28, Tryd.ntmps28
  go_upto_region 1 with fail
  clear hw1
  go_wp2_with fail
  refine (q1.out).mono ?_
  rintro e w2 ⟨rfl, rfl⟩
  clear q1
  go_wp2_with fail
  go_ret
  exact ⟨rfl, hB.out⟩
set_option maxRecDepth 20000 in
set_option maxHeartbeats 8000000 in
theorem lWait_none (x tg : Nat) (rs bs : Value) (now k : Int) (hk : 0 ≤ k) (a : Adr) (ho : a.ok) (w : World) (N : Nodes) (M : Keys) (n : Int) (h : limAt w x tg rs bs now) (hT : TrieAt w tg N M n) (hf : ofL (fnd M a) = -1) :
    Calls Tryd.prog 28 #[.pointer (some ⟨x, 0, none⟩), .agg #[.bool a.v6, .int .u64 (a.hi : Int), .int .u64 (a.lo : Int)], .int .i64 k] w fun r w' => r = .returned (.int .i64 now) ∧ Below w.heap.size w w' := by
  obtain ⟨w1, hw1⟩ : ∃ w1, w.alloc (.cells #[.bool a.v6, .int .u64 (a.hi : Int), .int .u64 (a.lo : Int)] 26) = w1 := ⟨_, rfl⟩
  have hB : Below w.heap.size w w1 := hw1 ▸ (Below.refl _ _).alloc (Nat.le_refl _) _
  have hg : w1.heap[w.heap.size]? = some (.cells #[.bool a.v6, .int .u64 (a.hi : Int), .int .u64 (a.lo : Int)] 26 (0, 0)) := hw1 ▸ blk_new _ _ _
  have h1 : limAt w1 x tg rs bs now := blk_below hB (lt_of_blk h) h
  have q1 := lnone_any x tg rs bs now w1 h1
  have q2 := lOf_any x tg rs bs now a ho w1 N M n h1 (hT.below hB)
  rw [hf] at q2
  have c0 := blk_cell hg 0
  have c1 := blk_cell hg 1
  have c2 := blk_cell hg 2
  clear h hT hf hg ho
  obtain ⟨v6, hi, lo⟩ := a
  dsimp only at q2 c0 c1 c2 hw1 ⊢
  have hk' : ¬ k < 0 := by omega
  clear hk
  replace q1 := hide q1
  replace q2 := hide q2
  replace hB := hide hB
  replace h1 := hide h1
  go_enter Tryd.func28, Tryd.ntmps28
  go_upto_region 1 with fail
  clear hw1
  go_wp2_with fail
  refine (q1.out).mono ?_
  rintro e w2 ⟨rfl, rfl⟩
  clear q1
  go_wp2_with fail
  refine (q2.out).mono ?_
  rintro e w3 ⟨rfl, hb3⟩
  have hB3 := hB.out.trans (hb3.mono hB.out.size)
  have h3 : limAt w3 x tg rs bs now := blk_below hb3 (lt_of_blk h1.out) h1.out
  unfold limAt at h3
  have c3' := blk_cell h3 3
  clear q2 hB hb3 c0 c1 c2 h3 h1
  replace hB3 := hide hB3
  go_wp2_with fail
  go_ret
  exact ⟨rfl, hB3.out⟩
set_option maxRecDepth 20000 in
set_option maxHeartbeats 8000000 in
theorem lWait_some (x tg q c j l g : Nat) (rs : Value) (cs : Array Value) (now k e m hh nn : Int) (hk : 0 ≤ k) (a : Adr) (ho : a.ok) (w : World) (N : Nodes) (M : Keys) (n : Int) (h : limAt w x tg rs (.slice (some ⟨q, 0, none⟩) l c) now) (hT : TrieAt w tg N M n) (hf : ofL (fnd M a) = (j : Int))
    (hq : w.heap[q]? = some (.cells cs 52 (0, 0))) (hj : cs[j]? = some (.pointer (some ⟨g, 0, none⟩))) (hjl : j < l) (hl : l ≤ 1099511627776) (hb : bktAt w g e m hh nn) (hm : 1 ≤ m) (h0 : 0 ≤ hh) (hhm : hh ≤ m) (hm2 : m ≤ 1099511627776) (he : 0 ≤ e) (he2 : e ≤ 1099511627776) (hn0 : 0 ≤ nn) (hn : nn ≤ 1099511627776) :
    Calls Tryd.prog 28 #[.pointer (some ⟨x, 0, none⟩), .agg #[.bool a.v6, .int .u64 (a.hi : Int), .int .u64 (a.lo : Int)], .int .i64 k] w fun r w' => r = .returned (.int .i64 (waitF e m hh nn k)) ∧ Below w.heap.size w w' := by
  obtain ⟨w1, hw1⟩ : ∃ w1, w.alloc (.cells #[.bool a.v6, .int .u64 (a.hi : Int), .int .u64 (a.lo : Int)] 26) = w1 := ⟨_, rfl⟩
  have hB : Below w.heap.size w w1 := hw1 ▸ (Below.refl _ _).alloc (Nat.le_refl _) _
  have hg : w1.heap[w.heap.size]? = some (.cells #[.bool a.v6, .int .u64 (a.hi : Int), .int .u64 (a.lo : Int)] 26 (0, 0)) := hw1 ▸ blk_new _ _ _
  have h1 : limAt w1 x tg rs (.slice (some ⟨q, 0, none⟩) l c) now := blk_below hB (lt_of_blk h) h
  have hq1 := blk_below hB (lt_of_blk hq) hq
  have hb1 : bktAt w1 g e m hh nn := blk_below hB (lt_of_blk hb) hb
  have q1 := lnone_any x tg rs _ now w1 h1
  have q2 := lOf_any x tg rs _ now a ho w1 N M n h1 (hT.below hB)
  rw [hf] at q2
  have c0 := blk_cell hg 0
  have c1 := blk_cell hg 1
  have c2 := blk_cell hg 2
  obtain ⟨Y, hY⟩ : ∃ Y, waitF e m hh nn k = Y := ⟨_, rfl⟩
  have q3 := fun w' hbk => bWait_any g e m hh nn k w' hbk hm h0 hhm hm2 he he2 hn0 hn
  rw [hY] at q3 ⊢
  clear h hT hf hg ho hY hq hb hm hhm h0 hm2 he he2 hn0 hn
  obtain ⟨v6, hi, lo⟩ := a
  dsimp only at q2 c0 c1 c2 hw1 ⊢
  have hk' : ¬ k < 0 := by omega
  have hj0 : ¬ (j : Int) < 0 := by omega
  clear hk
  replace q1 := hide q1
  replace q2 := hide q2
  replace q3 := hide q3
  replace hB := hide hB
  replace h1 := hide h1
  replace hq1 := hide hq1
  replace hb1 := hide hb1
  go_enter Tryd.func28, Tryd.ntmps28
  go_upto_region 1 with fail
  clear hw1
  go_wp2_with fail
  refine (q1.out).mono ?_
  rintro e w2 ⟨rfl, rfl⟩
  clear q1
  go_wp2_with fail
  refine (q2.out).mono ?_
  rintro e w3 ⟨rfl, hb3⟩
  have hB3 := hB.out.trans (hb3.mono hB.out.size)
  have h3 : limAt w3 x tg rs (.slice (some ⟨q, 0, none⟩) l c) now := blk_below hb3 (lt_of_blk h1.out) h1.out
  have hq3 := blk_cell (blk_below hb3 (lt_of_blk hq1.out) hq1.out) j
  rw [hj] at hq3
  have hb3 : bktAt w3 g e m hh nn := blk_below hb3 (lt_of_blk hb1.out) hb1.out
  unfold limAt at h3
  have c2' := blk_cell h3 2
  clear q2 hB c0 c1 c2 h3 h1 hq1 hb1 hj
  replace hB3 := hide hB3
  replace hb3 := hide hb3
  go_wp2_with fail
  refine (q3.out _ hb3.out).mono ?_
  rintro e w4 ⟨rfl, hb4⟩
  clear q3
  have hB4 := hB3.out.trans (hb4.mono hB3.out.size)
  clear hb4 hB3
  replace hB4 := hide hB4
  go_wp2_with fail
  go_ret
  exact ⟨rfl, hB4.out⟩
set_option maxRecDepth 20000 in
set_option maxHeartbeats 8000000 in
theorem lHave_out (x tg l : Nat) (A : Option Addr) (c : Nat) (rs : Value) (now j : Int) (hj : j < 0 ∨ (l : Int) ≤ j) (w : World) (h : limAt w x tg rs (.slice A l c) now) :
    Calls Tryd.prog 20 #[.pointer (some ⟨x, 0, none⟩), .int .i64 j] w fun r w' => r = .returned (.int .i64 0) ∧ w' = w := by
  have q1 := lnone_any x tg rs _ now w h
  unfold limAt at h
  have c2 := blk_cell h 2
  clear h
  replace q1 := hide q1
  by_cases h0 : j < 0
  · clear hj
    go_enter Tryd.func20, Tryd.ntmps20
    go_wp2_with fail
    refine (q1.out).mono ?_
    rintro e w2 ⟨rfl, rfl⟩
    clear q1
    go_wp2_with fail
    go_ret
    exact ⟨rfl, rfl⟩
  · have h1 : (l : Int) ≤ j := by omega
    clear hj
    go_enter Tryd.func20, Tryd.ntmps20
    go_wp2_with fail
    refine (q1.out).mono ?_
    rintro e w2 ⟨rfl, rfl⟩
    clear q1
    go_wp2_with fail
    go_ret
    exact ⟨rfl, rfl⟩
set_option maxRecDepth 20000 in
set_option maxHeartbeats 8000000 in
theorem lHave_some (x tg q c j l g : Nat) (rs : Value) (cs : Array Value) (now e m hh nn : Int) (w : World) (h : limAt w x tg rs (.slice (some ⟨q, 0, none⟩) l c) now)
    (hq : w.heap[q]? = some (.cells cs 52 (0, 0))) (hj : cs[j]? = some (.pointer (some ⟨g, 0, none⟩))) (hjl : j < l) (hl : l ≤ 1099511627776) (hb : bktAt w g e m hh nn) (hm : 1 ≤ m) :
    Calls Tryd.prog 20 #[.pointer (some ⟨x, 0, none⟩), .int .i64 (j : Int)] w fun r w' => r = .returned (.int .i64 hh) ∧ w' = w := by
  have q1 := lnone_any x tg rs _ now w h
  have q2 := bHave_any g e m hh nn w hb hm
  unfold limAt at h
  have c2 := blk_cell h 2
  have hq3 := blk_cell hq j
  rw [hj] at hq3
  have hj0 : ¬ (j : Int) < 0 := by omega
  have hj1 : ¬ (l : Int) ≤ (j : Int) := by omega
  clear h hq hj hb hm
  replace q1 := hide q1
  replace q2 := hide q2
  go_enter Tryd.func20, Tryd.ntmps20
  go_wp2_with fail
  refine (q1.out).mono ?_
  rintro e w2 ⟨rfl, rfl⟩
  clear q1
  go_wp2_with fail
  refine (q2.out).mono ?_
  rintro e w3 ⟨rfl, rfl⟩
  clear q2
  go_wp2_with fail
  go_ret
  exact ⟨rfl, rfl⟩
end Addr05
end Go.Proofs.YtbcicbiphgeghaaDoor
