/- pfx: plain: what a trie finds that prefixes were put in, one by one. No condition. -/
import Derived.Test.YtccmbnaakdffaaaDoorQPfxSorts14
import Derived.Test.YtccmbnaakdffaaaDoorQPfxSorts3
import Derived.Test.YtccmbnaakdffaaaDoorQPfxSorts10
import Derived.Test.YtccmbnaakdffaaaDoorQPfxSorts13
import Derived.Test.YtccmbnaakdffaaaDoorQPfxSorts2
import Derived.Test.YtccmbnaakdffaaaDoorQPfxSorts6
import Derived.HandedShaped
import Derived.LaidMore
import Derived.Lay
import Derived.OpenShut
import Derived.Shelf.Vars
import Derived.Stop.Joined
namespace Go.Proofs.YtccmbnaakdffaaaDoor
open Go.RowKit Go.ChangeShapes Go.WideShapes Go.ChangeAt Go.Deep
namespace Addr05
/-- A prefix and its value. -/
structure PutE where
  p : Adr
  i : Int
  v : Int
deriving DecidableEq
def PutE.key (e : PutE) : List Nat := pkey e.p e.i.toNat
def PutE.right (e : PutE) : Bool := rightP e.p e.i
def stepM (M : Keys) (e : PutE) : Keys := if e.right = true then upd M e.key e.v else M
def keysOf (l : List PutE) : Keys := l.foldl stepM (fun _ => none)
def stepR (a : Adr) (r : Option (Int × Nat)) (e : PutE) : Option (Int × Nat) :=
  if hasP e.p e.i a = true ∧ (∀ q, r = some q → (q.2 : Int) ≤ e.i) then some (e.v, e.i.toNat) else r
def pickOf (a : Adr) (l : List PutE) : Option (Int × Nat) := l.foldl (stepR a) none
theorem keysOf_snoc (l : List PutE) (k : Nat) (e : PutE) (h : l[k]? = some e) : keysOf (l.take (k + 1)) = stepM (keysOf (l.take k)) e := by
  unfold keysOf
  rw [List.take_add_one, h]
  simp
theorem pickOf_snoc (a : Adr) (l : List PutE) (k : Nat) (e : PutE) (h : l[k]? = some e) : pickOf a (l.take (k + 1)) = stepR a (pickOf a (l.take k)) e := by
  unfold pickOf
  rw [List.take_add_one, h]
  simp
def bitsN (a : Adr) (k : Nat) : List Nat := (List.range k).map a.bit
theorem bitsN_len (a : Adr) (k : Nat) : (bitsN a k).length = k := by unfold bitsN; simp
theorem bitsN_take (a : Adr) (k n : Nat) (h : k ≤ n) : (bitsN a n).take k = bitsN a k := by
  unfold bitsN
  rw [← List.map_take, List.take_range, Nat.min_eq_left h]
theorem bitsN_eq (a b : Adr) (k : Nat) : bitsN a k = bitsN b k ↔ ∀ j, j < k → a.bit j = b.bit j := by
  unfold bitsN
  constructor
  · intro h j hj
    have := congrArg (fun l => l[j]?) h
    simpa [hj] using this
  · intro h
    apply List.map_congr_left
    intro j hj
    exact h j (List.mem_range.1 hj)
theorem vbit_inj (a b : Bool) (h : vbit a = vbit b) : a = b := by
  cases a <;> cases b <;> first | rfl | (exfalso; revert h; decide)
theorem hasP_iff (e : PutE) (a : Adr) (hp : e.p.ok) (ha : a.ok) (har : a.right) (hr : e.right = true) : hasP e.p e.i a = true ↔ vbit e.p.v6 = vbit a.v6 ∧ bitsN e.p e.i.toNat = (bitsN a a.w).take e.i.toNat ∧ e.i.toNat ≤ a.w := by
  have h0 : 0 ≤ e.i := by
    rcases Int.lt_or_le e.i 0 with h | h
    · unfold PutE.right at hr; rw [right_no2 _ _ h] at hr; cases hr
    · exact h
  obtain ⟨k, hk⟩ : ∃ k : Nat, e.i = (k : Int) := ⟨e.i.toNat, by omega⟩
  unfold PutE.right at hr
  rw [hk] at hr ⊢
  rw [Int.toNat_natCast]
  have hkw := (rightP_facts e.p k hr).2.1
  by_cases h6 : a.v6 = e.p.v6
  · have hw : a.w = e.p.w := by unfold Adr.w; rw [h6]
    rw [has_bits e.p k a hp ha har hr (by simp [h6]), bitsN_take a k a.w (by omega), bitsN_eq]
    exact ⟨fun h => ⟨by rw [h6], h, by omega⟩, fun h => h.2.1⟩
  · rw [has_no2 e.p _ a (by simpa using h6)]
    constructor
    · intro h; cases h
    · rintro ⟨h, -⟩
      exact absurd (vbit_inj _ _ h).symm h6
/-- The keys of one version. -/
def sub (M : Keys) (v : Nat) : Keys := fun q => M (v :: q)
theorem find_step (a : Adr) (ha : a.ok) (har : a.right) (M : Keys) (r : Option (Int × Nat)) (h : IsFind (sub M (vbit a.v6)) (bitsN a a.w) r) (e : PutE) (hp : e.p.ok) : IsFind (sub (stepM M e) (vbit a.v6)) (bitsN a a.w) (stepR a r e) := by
  unfold stepM stepR
  by_cases hr : e.right = true
  · rw [if_pos hr]
    have h0 : 0 ≤ e.i := by
      rcases Int.lt_or_le e.i 0 with h | h
      · unfold PutE.right at hr; rw [right_no2 _ _ h] at hr; cases hr
      · exact h
    have hiff := hasP_iff e a hp ha har hr
    by_cases hv : vbit e.p.v6 = vbit a.v6
    · have e1 : sub (upd M e.key e.v) (vbit a.v6) = upd (sub M (vbit a.v6)) (bitsN e.p e.i.toNat) e.v := by
        funext q
        unfold sub upd PutE.key pkey
        rw [hv]
        show (if (vbit a.v6 :: q) = vbit a.v6 :: bitsN e.p e.i.toNat then some e.v else _) = _
        by_cases hq : q = bitsN e.p e.i.toNat
        · rw [if_pos (by rw [hq]), if_pos hq]
        · rw [if_neg (fun h => hq (List.cons.inj h).2), if_neg hq]
      rw [e1]
      have h1 := h.put (bitsN e.p e.i.toNat) e.v
      rw [bitsN_len] at h1
      have e2 : (bitsN e.p e.i.toNat = (bitsN a a.w).take e.i.toNat ∧ e.i.toNat ≤ (bitsN a a.w).length ∧ (∀ p, r = some p → p.2 ≤ e.i.toNat)) ↔ (hasP e.p e.i a = true ∧ (∀ q, r = some q → (q.2 : Int) ≤ e.i)) := by
        rw [hiff, bitsN_len]
        constructor
        · rintro ⟨h1, h2, h3⟩
          exact ⟨⟨hv, h1, h2⟩, fun q hq => by have := h3 q hq; omega⟩
        · rintro ⟨⟨-, h1, h2⟩, h3⟩
          exact ⟨h1, h2, fun q hq => by have := h3 q hq; omega⟩
      by_cases hc : hasP e.p e.i a = true ∧ (∀ q, r = some q → (q.2 : Int) ≤ e.i)
      · rw [if_pos hc]
        rwa [if_pos (e2.2 hc)] at h1
      · rw [if_neg hc]
        rwa [if_neg (fun h => hc (e2.1 h))] at h1
    · rw [if_neg (fun h => hv (hiff.1 h.1).1)]
      have e1 : sub (upd M e.key e.v) (vbit a.v6) = sub M (vbit a.v6) := by
        funext q
        unfold sub upd PutE.key pkey
        rw [if_neg (fun h => hv (List.cons.inj h).1.symm)]
      rw [e1]
      exact h
  · rw [if_neg hr, if_neg]
    · exact h
    · rintro ⟨h1, -⟩
      rw [has_no1 e.p e.i a (by unfold PutE.right at hr; simpa using hr)] at h1
      cases h1
theorem find_all (a : Adr) (ha : a.ok) (har : a.right) : ∀ (l : List PutE), (∀ e ∈ l, e.p.ok) → ∀ (M : Keys) (r : Option (Int × Nat)), IsFind (sub M (vbit a.v6)) (bitsN a a.w) r → IsFind (sub (l.foldl stepM M) (vbit a.v6)) (bitsN a a.w) (l.foldl (stepR a) r)
  | [], _, _, _, h => h
  | e :: l, hl, M, r, h => find_all a ha har l (fun x hx => hl x (List.mem_cons_of_mem _ hx)) _ _ (find_step a ha har M r h e (hl e List.mem_cons_self))
theorem best_spec (m : Nat → Option Int) : ∀ i, match best m i with
    | none => ∀ j, j < i → m j = none
    | some p => p.2 < i ∧ m p.2 = some p.1 ∧ ∀ j, p.2 < j → j < i → m j = none
  | 0 => fun j h => by omega
  | i + 1 => by
    have ih := best_spec m i
    rw [best]
    cases hm : m i with
    | some v => exact ⟨by dsimp only; omega, hm, fun j h1 h2 => by dsimp only at h1; omega⟩
    | none =>
      dsimp only
      cases hb : best m i with
      | none =>
        rw [hb] at ih
        intro j hj
        rcases Nat.lt_or_ge j i with h | h
        · exact ih j h
        · rw [show j = i by omega]; exact hm
      | some p =>
        rw [hb] at ih
        exact ⟨by omega, ih.2.1, fun j h1 h2 => by
          rcases Nat.lt_or_ge j i with h | h
          · exact ih.2.2 j h1 h
          · rw [show j = i by omega]; exact hm⟩
theorem best_find (a : Adr) (M : Keys) : IsFind (sub M (vbit a.v6)) (bitsN a a.w) (best (fun j => M (pkey a j)) (a.w + 1)) := by
  have h := best_spec (fun j => M (pkey a j)) (a.w + 1)
  have e : ∀ j, j ≤ a.w → sub M (vbit a.v6) ((bitsN a a.w).take j) = M (pkey a j) := fun j hj => by
    rw [bitsN_take a j a.w hj]
    rfl
  cases hb : best (fun j => M (pkey a j)) (a.w + 1) with
  | none =>
    rw [hb] at h
    intro j hj
    rw [bitsN_len] at hj
    rw [e j hj]
    exact h j (by omega)
  | some p =>
    rw [hb] at h
    obtain ⟨v, n⟩ := p
    obtain ⟨h1, h2, h3⟩ := h
    dsimp only at h1 h2 h3
    refine ⟨by rw [bitsN_len]; omega, by rw [e n (by omega)]; exact h2, fun j h4 h5 => ?_⟩
    rw [bitsN_len] at h5
    rw [e j h5]
    exact h3 j h4 (by omega)
/-- What Find tells is what the law picks. -/
theorem find_pick (a : Adr) (ha : a.ok) (har : a.right) (l : List PutE) (hl : ∀ e ∈ l, e.p.ok) : best (fun j => keysOf l (pkey a j)) (a.w + 1) = pickOf a l :=
  (best_find a (keysOf l)).unique (find_all a ha har l hl _ none (fun _ _ => rfl))
theorem key_inj (e d : PutE) (he : e.p.ok) (hd : d.p.ok) (hre : e.right = true) (hrd : d.right = true) (h : e.key = d.key) : e.p = d.p ∧ e.i = d.i := by
  have pos : ∀ x : PutE, x.right = true → ∃ k : Nat, x.i = (k : Int) := fun x hx => by
    rcases Int.lt_or_le x.i 0 with h | h
    · unfold PutE.right at hx; rw [right_no2 _ _ h] at hx; cases hx
    · exact ⟨x.i.toNat, by omega⟩
  obtain ⟨k, hk⟩ := pos e hre
  obtain ⟨k', hk'⟩ := pos d hrd
  unfold PutE.key at h
  rw [hk, hk', Int.toNat_natCast, Int.toNat_natCast] at h
  unfold PutE.right at hre hrd
  rw [hk] at hre
  rw [hk'] at hrd
  have hlen : k = k' := by
    have := congrArg List.length h
    unfold pkey at this
    simpa using this
  subst hlen
  obtain ⟨h1, h2⟩ := List.cons.inj h
  have h6 := vbit_inj _ _ h1
  have hb := (bitsN_eq e.p d.p k).1 h2
  obtain ⟨hr1, hw1, hm1⟩ := rightP_facts e.p k hre
  obtain ⟨hr2, hw2, hm2⟩ := rightP_facts d.p k hrd
  have h3 := (d.p.mask_eq2 e.p hd hr2 he hr1 h6.symm k hw2 hm1).2 hb
  rw [hm2] at h3
  exact ⟨h3.symm, by rw [hk, hk']⟩
theorem keys_some (l : List PutE) : ∀ (q : List Nat) (M : Keys), (l.foldl stepM M q).isSome = true ↔ (M q).isSome = true ∨ ∃ e ∈ l, e.right = true ∧ e.key = q := by
  induction l with
  | nil => intro q M; simp
  | cons e l ih =>
    intro q M
    rw [List.foldl_cons, ih]
    unfold stepM
    by_cases hr : e.right = true
    · rw [if_pos hr]
      unfold upd
      by_cases hq : q = e.key
      · rw [if_pos hq]
        simp [hr, hq]
      · rw [if_neg hq]
        simp [hr, Ne.symm hq]
    · rw [if_neg hr]
      simp [hr]
/-- Is a prefix not among the first ones? -/
def freshB (l : List PutE) (k : Nat) (e : PutE) : Bool := (l.take k).all fun d => !(decide (d.p = e.p ∧ d.i = e.i))
theorem fresh_keys (l : List PutE) (k : Nat) (e : PutE) (hl : ∀ x ∈ l, x.p.ok) (he : e.p.ok) (hr : e.right = true) : freshB l k e = !(keysOf (l.take k) e.key).isSome := by
  rw [Bool.eq_iff_iff]
  unfold freshB keysOf
  rw [Bool.not_eq_true', ← Bool.not_eq_true, keys_some, List.all_eq_true]
  constructor
  · rintro h (h1 | ⟨d, hd, h1, h2⟩)
    · cases h1
    · have h3 := h d hd
      obtain ⟨h4, h5⟩ := key_inj d e (hl d (List.mem_of_mem_take hd)) he h1 hr h2
      simp [h4, h5] at h3
  · intro h d hd
    by_cases hde : d.p = e.p ∧ d.i = e.i
    · refine absurd (.inr ⟨d, hd, ?_, ?_⟩) h
      · unfold PutE.right at hr ⊢; rw [hde.1, hde.2]; exact hr
      · unfold PutE.key; rw [hde.1, hde.2]
    · simp [hde]
theorem fresh_snoc (l : List PutE) (k : Nat) (e d : PutE) (h : l[k]? = some d) : freshB l (k + 1) e = (freshB l k e && !(decide (d.p = e.p ∧ d.i = e.i))) := by
  unfold freshB
  rw [List.take_add_one, h]
  simp
end Addr05
end Go.Proofs.YtccmbnaakdffaaaDoor
/- pfx: a slice of prefixes with values, as it is opened. No condition. -/
namespace Go.Proofs.YtccmbnaakdffaaaDoor
open Go.RowKit Go.ChangeShapes Go.WideShapes Go.ChangeAt Go.Deep
namespace Addr05
def putC (e : PutE) : List Value := [.bool e.p.v6, .int .u64 (e.p.hi : Int), .int .u64 (e.p.lo : Int), .int .i64 e.i, .int .i64 e.v]
def PutE.ok (e : PutE) : Prop := e.p.ok ∧ (-9223372036854775808 ≤ e.i ∧ e.i ≤ 9223372036854775807) ∧ (-9223372036854775808 ≤ e.v ∧ e.v ≤ 9223372036854775807)
theorem leafsPut : leafsOf Tryd.prog 5 66 0 = some [(4, 0), (22, 1), (22, 2), (3, 3), (3, 4)] := by kernel_rfl
theorem cellsPut : Tryd.prog.cellsOf 66 = 5 := by kernel_rfl
section
variable {H : Type} {enc : TypeId × Value → H} {w : World} {spare : Nat → Bool} {held : Bool}
theorem open_u64n {m : Nat} {v : Value} {y : DataW H × List MemPlace} (h : DataW.trod enc Tryd.prog w 0 spare held m 22 [v] = some y) : ∃ n : Nat, v = .int .u64 (n : Int) ∧ n < 18446744073709551616 := by
  obtain ⟨n, e, _, hw⟩ := DataW.trod_int Tryd.underlying22 h
  cases e
  obtain ⟨k, rfl, hk⟩ := u64_nat hw
  exact ⟨k, rfl, hk⟩
theorem open_puts {m : Nat} {v : Value} {y : DataW H × List MemPlace} (h : DataW.trod enc Tryd.prog w 0 spare held m 56 [v] = some y) :
    ∃ A n c es, v = .slice A n c ∧ (IsT putC 5 w w.heap.size A n es ∧ ∀ x ∈ es, PutE.ok x) ∧ n ≤ c ∧ c ≤ maxLen :=
  open_structs PutE.ok Tryd.underlying56 cellsPut (by omega) (fun n cs y h hcl => by
    have hlf := trod_leafs cs 5 66 0 _ n y leafsPut (by rw [cellsPut, List.drop_zero, List.take_of_length_le (by omega)]; exact h)
    match cs, hcl with
    | [a, b, c, d, e], _ =>
      obtain ⟨_, _, t0⟩ := hlf 4 0 (by simp)
      obtain ⟨_, _, t1⟩ := hlf 22 1 (by simp)
      obtain ⟨_, _, t2⟩ := hlf 22 2 (by simp)
      obtain ⟨_, _, t3⟩ := hlf 3 3 (by simp)
      obtain ⟨_, _, t4⟩ := hlf 3 4 (by simp)
      simp only [List.drop_succ_cons, List.drop_zero, List.take_succ_cons, List.take_zero] at t0 t1 t2 t3 t4
      obtain ⟨v6, rfl⟩ := open_bool' t0
      obtain ⟨hi, rfl, h1⟩ := open_u64n t1
      obtain ⟨lo, rfl, h2⟩ := open_u64n t2
      obtain ⟨i, rfl, h3⟩ := open_i64 t3
      obtain ⟨u, rfl, h4⟩ := open_i64 t4
      exact ⟨⟨⟨v6, hi, lo⟩, i, u⟩, rfl, ⟨h1, h2⟩, i64_wf h3, i64_wf h4⟩) h
end
end Addr05
end Go.Proofs.YtccmbnaakdffaaaDoor
/- pfx: Sort; the law's less; a nil trie. Conditions: at most 40 prefixes. -/
namespace Go.Proofs.YtccmbnaakdffaaaDoor
open Go.RowKit Go.ChangeShapes Go.WideShapes Go.ChangeAt Go.Deep
namespace Sort06
open Addr05 (Adr open_u64n cmpI lessB Compare_any)
/-- A prefix of which the numbers have 64 bits. -/
structure PfK where
  p : Adr
  i : Int
  ok : p.ok
def pfK (e : PfK) : List Value := [.bool e.p.v6, .int .u64 (e.p.hi : Int), .int .u64 (e.p.lo : Int), .int .i64 e.i]
theorem pfK_len (e : PfK) : (pfK e).length = 4 := rfl
def X0 (es : List PfK) : Nat → El := fun k => match es[k]? with | some x => ⟨x.p, x.i, k, x.ok⟩ | none => ⟨⟨false, 0, 0⟩, 0, k, ⟨by decide, by decide⟩⟩
theorem X0_t (es : List PfK) (k : Nat) : (X0 es k).t = k := by
  unfold X0
  cases es[k]? <;> rfl
theorem X0_up (es : List PfK) (a b : Nat) : Up (X0 es) a b := fun i j _ h _ => by rw [X0_t, X0_t]; exact h
theorem X0_get {es : List PfK} {k : Nat} {x : PfK} (h : es[k]? = some x) : (X0 es k).p = x.p ∧ (X0 es k).i = x.i ∧ pfK x = (elA (X0 es k)).toList := by
  unfold X0 elA pfK
  rw [h]
  exact ⟨rfl, rfl, rfl⟩
section
variable {H : Type} {enc : TypeId × Value → H} {w : World} {spare : Nat → Bool} {held : Bool}
theorem leafsPf : leafsOf Tryd.prog 5 45 0 = some [(4, 0), (22, 1), (22, 2), (3, 3)] := by kernel_rfl
theorem cellsPf : Tryd.prog.cellsOf 45 = 4 := by kernel_rfl
theorem open_pfs {m : Nat} {v : Value} {y : DataW H × List MemPlace} (h : DataW.trod enc Tryd.prog w 0 spare held m 72 [v] = some y) :
    ∃ A n c es, v = .slice A n c ∧ (IsT pfK 4 w w.heap.size A n es ∧ ∀ x ∈ es, True) ∧ n ≤ c ∧ c ≤ maxLen :=
  open_structs (fun _ => True) Tryd.underlying72 cellsPf (by omega) (fun n cs y h hcl => by
    have hlf := trod_leafs cs 5 45 0 _ n y leafsPf (by rw [cellsPf, List.drop_zero, List.take_of_length_le (by omega)]; exact h)
    match cs, hcl with
    | [a, b, c, d], _ =>
      obtain ⟨_, _, t0⟩ := hlf 4 0 (by simp)
      obtain ⟨_, _, t1⟩ := hlf 22 1 (by simp)
      obtain ⟨_, _, t2⟩ := hlf 22 2 (by simp)
      obtain ⟨_, _, t3⟩ := hlf 3 3 (by simp)
      simp only [List.drop_succ_cons, List.drop_zero, List.take_succ_cons, List.take_zero] at t0 t1 t2 t3
      obtain ⟨v6, rfl⟩ := open_bool' t0
      obtain ⟨hi, rfl, h1⟩ := open_u64n t1
      obtain ⟨lo, rfl, h2⟩ := open_u64n t2
      obtain ⟨i, rfl, h3⟩ := open_i64 t3
      exact ⟨⟨⟨v6, hi, lo⟩, i, ⟨h1, h2⟩⟩, rfl, trivial⟩) h
end
theorem info_pf : (Tryd.prog.info? 45).map (fun i => (i.zero, i.size, i.bytes)) = some (some (.agg #[.bool false, .int .u64 0, .int .u64 0, .int .i64 0]), 4, 32) := by kernel_rfl
theorem pfK_one (es : List PfK) : ∀ u ∈ (es.map pfK).flatten, u.oneCell' = true := by
  intro u hu
  obtain ⟨l, hl, hu⟩ := List.mem_flatten.1 hu
  obtain ⟨r, _, rfl⟩ := List.mem_map.1 hl
  simp only [pfK, List.mem_cons, List.not_mem_nil, or_false] at hu
  rcases hu with rfl | rfl | rfl | rfl <;> rfl
set_option maxRecDepth 20000 in
set_option maxHeartbeats 8000000 in
theorem clone_pf (A : Option Addr) (n c : Nat) (es : List PfK) (w : World) (hx : IsT pfK 4 w w.heap.size A n es) (hn : n ≤ 1099511627776) :
    Calls Tryd.prog 56 #[.slice A n c] w fun e w' => ∃ v, e = .returned v ∧ w'.ownsRow w.heap.size 45 4 v n (es.map pfK).flatten ∧ Below w.heap.size w w' := by
  have hnil := fun W => Lib.run_eql_slice_nil (P := Tryd.prog) W 72 45 A n c 0 0 Tryd.underlying72
  have hl := hx.1
  rcases A with _ | ad
  · have h0 : n = 0 := by
      rcases Nat.eq_zero_or_pos n with h0 | h0
      · exact h0
      · obtain ⟨_, _, _, e, _⟩ := hx.at pfK_len (by omega) h0
        cases e
    obtain rfl : es = [] := List.eq_nil_of_length_eq_zero (by omega)
    subst h0
    simp only [Option.isNone_none] at hnil
    clear hx
    go_enter Tryd.func56, Tryd.ntmps56
    go_wp2
    go_ret
    exact ⟨_, rfl, World.ownsRow_nil _ _ _ _, Below.refl _ _⟩
  · obtain ⟨i, hi1, hz1, hsz, hb1⟩ := info_parts info_pf
    have hbl : Below w.heap.size w (w.alloc (.cells #[] 45)) := (Below.refl _ _).alloc (Nat.le_refl _) _
    have hx1 := hx.on hbl
    have ho : (w.alloc (.cells #[] 45)).ownsRow w.heap.size 45 4 (.slice (some ⟨w.heap.size, 0, none⟩) 0 0) 0 [] := ⟨by simp, .inr ⟨w.heap.size, 0, #[], rfl, Nat.le_refl _, blk_new _ _ _, Nat.le_refl _, by unfold maxLen; omega, by simp, by simp⟩⟩
    simp only [Option.isNone_some] at hnil
    replace ho := hide ho
    replace hx1 := hide hx1
    replace hbl := hide hbl
    replace hl := hide hl
    clear hx
    go_enter Tryd.func56, Tryd.ntmps56
    go_upto_region 3 with fail
    apply wp_region_lit
    iterate 2 (refine wpList_plain rfl fun K hK => ?_; go_simp; refine hK _ _ ?_; clear hK K)
    refine wpl_append _ rfl (.tmp 5) (.tmp 6) 72 rfl w.heap.size 45 i _ 4 32 Tryd.underlying72 hi1 hz1 hsz hb1 rfl (by omega) _ 0 [] rfl ho.out _ (some ad) n c (es.map pfK).flatten rfl hx1.out.2 (pfK_one es) (by unfold maxLen; omega) (by omega) (by simp) fun v' w' h1 h2 h3 => ?_
    rw [Nat.zero_add, List.nil_append] at h1
    have hb := hbl.out.trans (below_of_grown h2 (by simp) fun k hk => (World.ownsRow.lt ho.out k hk).1)
    clear h2 h3
    replace h1 := hide h1
    replace hb := hide hb
    iterate 1 (refine wpList_plain rfl fun K hK => ?_; go_simp; refine hK _ _ ?_; clear hK K)
    refine wpList_nil ?_
    go_simp
    go_wp2_with fail
    go_ret
    exact ⟨_, rfl, h1.out, hb.out⟩
/-- A row of the call's own as a function of places. -/
theorem rowF_of {w : World} {base n : Nat} {v : Value} {es : List PfK} (hl : es.length = n) (h0 : 0 < n) (h : w.ownsRow base 45 4 v n (es.map pfK).flatten) : ∃ g c, v = .slice (some ⟨g, 0, none⟩) n c ∧ base ≤ g ∧ RowF w g n (X0 es) := by
  rcases h.2 with ⟨_, h1⟩ | ⟨g, cap, cur, rfl, hg, hh, hnc, hm, hs, ht⟩
  · omega
  · refine ⟨g, cap, rfl, hg, cur, hh, ?_, fun k j u hk hu => ?_⟩
    · have := Nat.mul_le_mul_right 4 hnc
      omega
    · have hkl : k < es.length := by omega
      have h2 : es[k]? = some es[k] := List.getElem?_eq_getElem hkl
      obtain ⟨-, -, h3⟩ := X0_get h2
      have hj : j < 4 := (Array.getElem?_eq_some_iff.1 hu).1
      have h4 := flat_get 4 (es.map pfK) (fun r hr => by obtain ⟨x, _, rfl⟩ := List.mem_map.1 hr; exact pfK_len x) k j hj
      rw [List.getElem?_map, h2, Option.map_some, Option.bind_some, h3] at h4
      have h4 := h4.trans (show (elA (X0 es k)).toList[j]? = some u by rw [Array.getElem?_toList]; exact hu)
      rw [← ht, List.getElem?_take] at h4
      split at h4
      · rw [Array.getElem?_toList] at h4
        exact h4
      · cases h4
set_option maxRecDepth 20000 in
set_option maxHeartbeats 8000000 in
theorem insertion_zero (v : Value) (w : World) : Calls Tryd.prog 73 #[v, .int .i64 0, .int .i64 0, cmpV] w fun e w' => e = .returned (.tuple #[]) ∧ w' = w := by
  unfold cmpV
  go_enter Tryd.func73, Tryd.ntmps73
  go_wp2_with fail
  refine wp_loop_rounds 1 ?_
  rw [rounds_succ]
  go_wp2_with fail
  refine bodyPost_end (v := .tuple #[]) (by simp [results, Tryd.results73, go_sem]) rfl ⟨rfl, rfl⟩
set_option maxRecDepth 20000 in
set_option maxHeartbeats 8000000 in
theorem stable_zero (v : Value) (w : World) : Calls Tryd.prog 67 #[v, .int .i64 0, cmpV] w fun e w' => e = .returned (.tuple #[]) ∧ w' = w := by
  have q := insertion_zero v w
  unfold cmpV at q ⊢
  replace q := hide q
  go_enter Tryd.func67, Tryd.ntmps67
  go_wp2_with fail
  refine wp_loop_rounds 1 ?_
  rw [rounds_succ]
  go_wp2_with fail
  refine q.out.mono ?_
  rintro e w2 ⟨rfl, rfl⟩
  go_wp2_with fail
  refine wp_loop_rounds 1 ?_
  rw [rounds_succ]
  go_wp2_with fail
  refine bodyPost_end (v := .tuple #[]) (by simp [results, Tryd.results67, go_sem]) rfl ⟨rfl, rfl⟩
set_option maxRecDepth 20000 in
set_option maxHeartbeats 8000000 in
theorem sortStable_zero (A : Option Addr) (c : Nat) (w : World) : Calls Tryd.prog 57 #[.slice A 0 c, cmpV] w fun e w' => e = .returned (.tuple #[]) ∧ w' = w := by
  have q := stable_zero (.slice A 0 c) w
  unfold cmpV at q ⊢
  replace q := hide q
  go_enter Tryd.func57, Tryd.ntmps57
  go_wp2_with fail
  refine q.out.mono ?_
  rintro e w2 ⟨rfl, rfl⟩
  go_wp2_with fail
  refine bodyPost_end (v := .tuple #[]) (by simp [results, Tryd.results57, go_sem]) rfl ⟨rfl, rfl⟩
/-- What Sort makes of prefixes. -/
def SortEnd (n : Nat) (es : List PfK) (w w' : World) (e : Ending) : Prop :=
  Below w.heap.size w w' ∧ ∃ A c, e = .returned (.slice A n c) ∧ (0 < n → ∃ g Y, A = some ⟨g, 0, none⟩ ∧ RowF w' g n Y ∧ PermOn 0 n (X0 es) Y ∧ Srt Y 0 n)
set_option maxRecDepth 20000 in
set_option maxHeartbeats 8000000 in
theorem sort_any (A : Option Addr) (n c : Nat) (es : List PfK) (w : World) (hx : IsT pfK 4 w w.heap.size A n es) (hn : n ≤ 40) :
    Calls Tryd.prog 38 #[.slice A n c] w fun e w' => SortEnd n es w w' e := by
  have q := clone_pf A n c es w hx (by omega)
  have hl := hx.1
  clear hx
  replace q := hide q
  go_enter Tryd.func38, Tryd.ntmps38
  go_wp2_with fail
  refine q.out.mono ?_
  rintro e w2 ⟨v, rfl, hv, hb⟩
  have hz := hb.size
  clear q
  by_cases h0 : 0 < n
  · obtain ⟨g, c2, rfl, hg, hr⟩ := rowF_of hl h0 hv
    have q := sortStable_any g n c2 (X0 es) hn (X0_up es 0 n) w2 hr
    unfold cmpV at q
    clear hv hr
    replace q := hide q
    replace hb := hide hb
    go_wp2_with fail
    refine q.out.mono ?_
    rintro e w3 ⟨rfl, Y, hr3, hp3, hs3, hg3⟩
    have hB3 := hb.out.trans (below_grown hg3 hz hg)
    clear q hg3
    replace hr3 := hide hr3
    replace hp3 := hide hp3
    replace hs3 := hide hs3
    replace hB3 := hide hB3
    go_wp2_with fail
    go_ret
    exact ⟨hB3.out, _, _, rfl, fun _ => ⟨g, Y, rfl, hr3.out, hp3.out, hs3.out⟩⟩
  · obtain rfl : n = 0 := by omega
    obtain ⟨A2, c2, rfl, -, -, -⟩ := own_isv hv
    have q := sortStable_zero A2 c2 w2
    unfold cmpV at q
    clear hv
    replace q := hide q
    replace hb := hide hb
    go_wp2_with fail
    refine q.out.mono ?_
    rintro e w3 ⟨rfl, rfl⟩
    clear q
    go_wp2_with fail
    go_ret
    exact ⟨hb.out, _, _, rfl, fun h => by omega⟩
/-! ### The law's less -/
theorem kl_iff (x y : El) : kl x y ↔ cmpI x.p y.p < 0 ∨ (cmpI x.p y.p = 0 ∧ x.i < y.i) := by
  rw [← cmpE_lt]
  unfold cmpE
  split
  · rename_i h
    rw [h]
    constructor
    · intro h2
      refine .inr ⟨rfl, ?_⟩
      split at h2
      · assumption
      · split at h2 <;> omega
    · rintro (h2 | ⟨-, h2⟩)
      · omega
      · rw [if_pos h2]; decide
  · constructor
    · intro h2; exact .inl h2
    · rintro (h2 | ⟨h2, -⟩)
      · exact h2
      · contradiction
set_option maxRecDepth 20000 in
set_option maxHeartbeats 8000000 in
theorem less_pf (x y : El) (w : World) : Calls Tryd.prog 39 #[.agg (elA x), .agg (elA y)] w fun e w' => e = .returned (.bool (decide (kl x y))) ∧ Below w.heap.size w w' := by
  have q := fun w => Compare_any x.p y.p w
  have he := kl_iff x y
  obtain ⟨c, hc⟩ : ∃ c, cmpI x.p y.p = c := ⟨_, rfl⟩
  rw [hc] at q he
  have hB : ∃ B, decide (kl x y) = B := ⟨_, rfl⟩
  obtain ⟨B, hB⟩ := hB
  have he2 : B = true ↔ c < 0 ∨ (c = 0 ∧ x.i < y.i) := by rw [← hB, decide_eq_true_eq]; exact he
  rw [hB]
  clear he hB hc
  unfold elA
  obtain ⟨⟨xv, xh, xl⟩, xi, xt, x1, x2⟩ := x
  obtain ⟨⟨yv, yh, yl⟩, yi, yt, y1, y2⟩ := y
  dsimp only at he2 q ⊢
  obtain ⟨w1, hw1⟩ : ∃ w1, w.alloc (.cells #[.bool xv, .int .u64 (xh : Int), .int .u64 (xl : Int), .int .i64 xi] 45) = w1 := ⟨_, rfl⟩
  have hs1 : w1.heap.size = w.heap.size + 1 := by rw [← hw1]; simp
  obtain ⟨w2, hw2⟩ : ∃ w2, w1.alloc (.cells #[.bool yv, .int .u64 (yh : Int), .int .u64 (yl : Int), .int .i64 yi] 45) = w2 := ⟨_, rfl⟩
  have hB1 : Below w.heap.size w w1 := hw1 ▸ (Below.refl _ _).alloc (Nat.le_refl _) _
  have hb2 : Below w1.heap.size w1 w2 := hw2 ▸ (Below.refl _ _).alloc (Nat.le_refl _) _
  have hB2 := hB1.trans (hb2.mono hB1.size)
  have hg1 : w1.heap[w.heap.size]? = some (.cells #[.bool xv, .int .u64 (xh : Int), .int .u64 (xl : Int), .int .i64 xi] 45 (0, 0)) := hw1 ▸ blk_new _ _ _
  have hgx := blk_below hb2 (by omega) hg1
  have hgy : w2.heap[w1.heap.size]? = some (.cells #[.bool yv, .int .u64 (yh : Int), .int .u64 (yl : Int), .int .i64 yi] 45 (0, 0)) := hw2 ▸ blk_new _ _ _
  have hs2 : w2.heap.size = w1.heap.size + 1 := by rw [← hw2]; simp
  rw [hs1] at hgy
  have cx := blk_cell hgx
  have cy := blk_cell hgy
  replace hB2 := hide hB2
  replace hgx := hide hgx
  replace hgy := hide hgy
  replace q := hide q
  replace he2 := hide he2
  go_enter Tryd.func39, Tryd.ntmps39
  go_upto_region 1 with fail
  clear hw1 hw2
  go_wp2_with fail
  refine (q.out w2).mono ?_
  rintro e w3 ⟨rfl, hb3⟩
  have hB3 := hB2.out.trans (hb3.mono hB2.out.size)
  have hgx3 := blk_below hb3 (by omega) hgx.out
  have hgy3 := blk_below hb3 (by omega) hgy.out
  clear cx cy
  have cx := blk_cell hgx3
  have cy := blk_cell hgy3
  clear hb3 hgx3 hgy3 q
  have he2 := he2.out
  by_cases h0 : c < 0
  · obtain rfl : B = true := he2.2 (.inl h0)
    clear he2
    replace hB3 := hide hB3
    go_wp2_with fail
    go_ret
    exact ⟨rfl, hB3.out⟩
  · by_cases h1 : c = 0
    · subst h1
      by_cases h2 : xi < yi
      · obtain rfl : B = true := he2.2 (.inr ⟨rfl, h2⟩)
        clear he2
        replace hB3 := hide hB3
        go_wp2_with fail
        go_ret
        exact ⟨rfl, hB3.out⟩
      · obtain rfl : B = false := by
          cases B
          · rfl
          · exact absurd (he2.1 rfl) (by rintro (h | ⟨-, h⟩) <;> omega)
        clear he2
        replace hB3 := hide hB3
        go_wp2_with fail
        go_ret
        exact ⟨by first | rfl | (simp [h2]), hB3.out⟩
    · obtain rfl : B = false := by
        cases B
        · rfl
        · exact absurd (he2.1 rfl) (by rintro (h | ⟨h, -⟩) <;> omega)
      clear he2
      replace hB3 := hide hB3
      go_wp2_with fail
      go_ret
      exact ⟨by first | rfl | (simp [h0, h1]), hB3.out⟩
/-! ### A nil trie -/
theorem len_nil (w : World) : Calls Tryd.prog 37 #[.pointer none] w fun e w' => e = .returned (.int .i64 0) ∧ w' = w := by
  go_enter Tryd.func37, Tryd.ntmps37
  go_wp2_with fail
  go_ret
  exact ⟨rfl, rfl⟩
theorem put_nil (v6 : Bool) (hi lo i v : Int) (w : World) : Calls Tryd.prog 35 #[.pointer none, .agg #[.bool v6, .int .u64 hi, .int .u64 lo, .int .i64 i], .int .i64 v] w fun e w' => e = .returned (.int .i64 1) ∧ Below w.heap.size w w' := by
  go_enter Tryd.func35, Tryd.ntmps35
  go_wp2_with fail
  go_ret
  exact ⟨rfl, (Below.refl _ _).alloc (Nat.le_refl _) _⟩
theorem find_nil (v6 : Bool) (hi lo : Int) (w : World) : Calls Tryd.prog 36 #[.pointer none, .agg #[.bool v6, .int .u64 hi, .int .u64 lo]] w fun e w' => e = .returned (.tuple #[.int .i64 0, .int .i64 0, .bool false]) ∧ Below w.heap.size w w' := by
  go_enter Tryd.func36, Tryd.ntmps36
  go_wp2_with fail
  refine bodyPost_ret (v := .tuple #[.int .i64 0, .int .i64 0, .bool false]) (by simp [results, Tryd.results36, go_sem]) rfl ⟨rfl, (Below.refl _ _).alloc (Nat.le_refl _) _⟩
end Sort06
end Go.Proofs.YtccmbnaakdffaaaDoor
/- The walk of PfxSorts: it answers true. Condition: the cell of bytealg.MaxLen. -/
namespace Go.Proofs.YtccmbnaakdffaaaDoor
open Go.RowKit Go.ChangeShapes Go.WideShapes Go.ChangeAt Go.Deep
namespace Sort06
open Addr05 (Adr pawake_any MaxAt u64_nat)
set_option maxRecDepth 20000 in
set_option maxHeartbeats 8000000 in
theorem psorts_walk (A : Option Addr) (n c : Nat) (es : List PfK) (w : World) (hx : IsT pfK 4 w w.heap.size A n es) (hnc : n ≤ c) (hcm : c ≤ maxLen) (hm : MaxAt w) :
    Calls Tryd.prog 10 #[.slice A n c] w fun e w' => e = .returned (.bool true) ∧ Below w.heap.size w w' := by
  have hA := fun w => pawake_any w
  have hlen0 := hx.1
  replace hx := hide hx
  replace hm := hide hm
  replace hA := hide hA
  go_enter Tryd.func10, Tryd.ntmps10
  go_upto_if 13 with fail
  go_cut [0] from 14 to 15 (fun v wx => (∃ A3 k, v = .slice A3 k c ∧ IsT pfK 4 wx wx.heap.size A3 k (es.take 40) ∧ k ≤ 40) ∧ w = wx)
  case first =>
    by_cases h40 : 40 < n
    · have i0 : (40 : Int) < (n : Int) := by omega
      have i1 : (40 : Int) ≤ (c : Int) := by omega
      obtain ⟨b, off, x, rfl, -⟩ := hx.out.at pfK_len (by omega) (show 0 < n by omega)
      have ht := hx.out.take pfK_len (show 40 ≤ n by omega)
      replace ht := hide ht
      go_wp2_with fail
      go_meet
      exact ⟨⟨_, 40, rfl, ht.out, by omega⟩, rfl⟩
    · have i0 : ¬ (40 : Int) < (n : Int) := by omega
      have ht : es.take 40 = es := List.take_of_length_le (by omega)
      go_wp2_with fail
      go_meet
      exact ⟨⟨_, n, rfl, by rw [ht]; exact hx.out, by omega⟩, rfl⟩
  case rest =>
  obtain ⟨⟨A3, m, rfl, hs, hm40⟩, rfl⟩ := hcut
  clear hx hlen0
  obtain ⟨ls, hls⟩ : ∃ l, es.take 40 = l := ⟨_, rfl⟩
  rw [hls] at hs
  clear hls
  have hlen := hs.1
  have q := sort_any A3 m c ls w hs hm40
  replace hs := hide hs
  replace q := hide q
  go_wp2_with fail
  refine q.out.mono ?_
  rintro e w2 ⟨hb2, A4, c4, rfl, hso⟩
  have hs2 := hs.out.on hb2
  have hm2 := hm.out.below hb2
  clear q hs hm
  replace hs2 := hide hs2
  replace hm2 := hide hm2
  replace hb2 := hide hb2
  replace hso := hide hso
  go_wp2_with fail
  go_loopw [4, 5, 6] (fun iv _ _ wr => ∃ i : Nat, i ≤ m ∧ iv = .int .i64 (i : Int) ∧ Below w2.heap.size w2 wr) (fun iv _ _ _ => m - (intOf iv).toNat)
  case atStart => exact ⟨0, by omega, rfl, Below.refl _ _⟩
  case round =>
    obtain ⟨i, hi, rfl, hbr⟩ := hrel
    by_cases him : i < m
    · have hlt : (i : Int) < (m : Int) := by omega
      have hzr := hbr.size
      obtain ⟨g, Y, hA4, hrow, hper, hsrt⟩ := hso.out (by omega)
      subst hA4
      obtain ⟨hat1, hat2⟩ := at_is hper hsrt him
      clear hper hsrt
      replace hbr := hide hbr
      replace hrow := hide hrow
      replace hat2 := hide hat2
      go_wp2_with fail
      go_loopw [5, 6] (fun av kv wr => ∃ k : Nat, k ≤ m ∧ kv = .int .i64 (k : Int) ∧ av = .int .i64 ((atC (X0 ls) i k : Nat) : Int) ∧ Below w2.heap.size w2 wr) (fun _ kv _ => m - (intOf kv).toNat)
      case atStart => exact ⟨0, by omega, rfl, rfl, hbr.out⟩
      case round =>
        clear hbr
        obtain ⟨k, hk, rfl, rfl, hbk⟩ := hrel
        by_cases hkm : k < m
        · have hklt : (k : Int) < (m : Int) := by omega
          have hzk := hbk.size
          have hxr := hs2.out.below hbk
          obtain ⟨bk, off, ek, hA3, hbkz, hrk, hcellk⟩ := hxr.at pfK_len (by omega) hkm
          subst hA3
          obtain ⟨bk3, off3, ei, hA5, -, hri, hcelli⟩ := hxr.at pfK_len (by omega) him
          cases hA5
          have hbw : bk < wr.heap.size := by omega
          have hXk : X0 ls k = ⟨ek.p, ek.i, k, ek.ok⟩ := by unfold X0; rw [hrk]
          have hXi : X0 ls i = ⟨ei.p, ei.i, i, ei.ok⟩ := by unfold X0; rw [hri]
          have hc1 := fun w => less_pf ⟨ek.p, ek.i, k, ek.ok⟩ ⟨ei.p, ei.i, i, ei.ok⟩ w
          have hc2 := fun w => less_pf ⟨ei.p, ei.i, i, ei.ok⟩ ⟨ek.p, ek.i, k, ek.ok⟩ w
          have hR : R (X0 ls k) (X0 ls i) ↔ kl ⟨ek.p, ek.i, k, ek.ok⟩ ⟨ei.p, ei.i, i, ei.ok⟩ ∨ (¬ kl ⟨ei.p, ei.i, i, ei.ok⟩ ⟨ek.p, ek.i, k, ek.ok⟩ ∧ k < i) := by
            rw [hXk, hXi]
            unfold R kl
            dsimp only
            omega
          have hat : atC (X0 ls) i (k + 1) = if R (X0 ls k) (X0 ls i) then atC (X0 ls) i k + 1 else atC (X0 ls) i k := rfl
          have hle := atC_le (X0 ls) i k
          obtain ⟨a, ha⟩ : ∃ a, atC (X0 ls) i k = a := ⟨_, rfl⟩
          rw [ha] at hat hle ⊢
          clear ha
          have wa : IntKind.i64.wrap ((a : Int) + 1) = ((a + 1 : Nat) : Int) := by rw [wraps62 _ (by omega) (by omega)]; omega
          unfold elA at hc1 hc2
          dsimp only at hc1 hc2
          have f0 := fun l : Later wr => (World.cell?_of_block (l.hb.block bk hbw)).trans (hcellk 0 (.bool ek.p.v6) rfl)
          have f1 := fun l : Later wr => (World.cell?_of_block (l.hb.block bk hbw)).trans (hcellk 1 (.int .u64 (ek.p.hi : Int)) rfl)
          have f2 := fun l : Later wr => (World.cell?_of_block (l.hb.block bk hbw)).trans (hcellk 2 (.int .u64 (ek.p.lo : Int)) rfl)
          have f3 := fun l : Later wr => (World.cell?_of_block (l.hb.block bk hbw)).trans (hcellk 3 (.int .i64 ek.i) rfl)
          have g0 := fun l : Later wr => (World.cell?_of_block (l.hb.block bk hbw)).trans (hcelli 0 (.bool ei.p.v6) rfl)
          have g1 := fun l : Later wr => (World.cell?_of_block (l.hb.block bk hbw)).trans (hcelli 1 (.int .u64 (ei.p.hi : Int)) rfl)
          have g2 := fun l : Later wr => (World.cell?_of_block (l.hb.block bk hbw)).trans (hcelli 2 (.int .u64 (ei.p.lo : Int)) rfl)
          have g3 := fun l : Later wr => (World.cell?_of_block (l.hb.block bk hbw)).trans (hcelli 3 (.int .i64 ei.i) rfl)
          simp only [Nat.add_zero] at f0 g0
          clear hcellk hcelli hxr hXk hXi hrk hri
          by_cases hB1 : kl ⟨ek.p, ek.i, k, ek.ok⟩ ⟨ei.p, ei.i, i, ei.ok⟩
          · rw [decide_eq_true hB1] at hc1
            rw [if_pos (hR.2 (.inl hB1))] at hat
            clear hR hB1
            replace hc1 := hide hc1
            replace hc2 := hide hc2
            replace hat := hide hat
            replace hbk := hide hbk
            go_upto_region 13 with fail
            refine wp_region_L (by as_aux_lemma => kernel_rfl) ?_
            refine wpE_seg 0 26 (fuel := 0) (by as_aux_lemma => kernel_rfl) (fun d _ _ _ _ h => by cases d <;> exact h) (by as_aux_lemma => kernel_rfl) (by as_aux_lemma => kernel_rfl) ?_
            simp only [List.drop_zero, List.take_succ_cons, List.take_zero]
            iterate 8 (refine wpQE_step (fun K hK => ?_); go_simp; refine hK _ ?_; clear hK K)
            (refine wpQE_step (fun K hK => ?_); go_simp; apply Exists.intro; refine ⟨fun l => ?_, hK _ ?_⟩; (go_at_call 39; refine (hc1.out l.w).mono ?_; rintro e w' ⟨rfl, hb⟩; exact ⟨rfl, hb⟩); clear hK K)
            refine wpQE_val_skip (.bool true) 15 rfl (fun l => rfl) (by as_aux_lemma => kernel_rfl) ?_
            dsimp only [putU, List.take_succ_cons, List.take_zero, List.drop_succ_cons, List.drop_zero, Act.put]
            iterate 1 (refine wpQE_step (fun K hK => ?_); go_simp; refine hK _ ?_; clear hK K)
            refine wpQE_nil ?_
            refine wpE_done (by as_aux_lemma => kernel_rfl) (fun w9 hb9 => ?_) 0
            clear f0 f1 f2 f3 g0 g1 g2 g3
            have hbx := hbk.out.trans (hb9.mono hbk.out.size)
            clear hb9 hbk hc1 hc2
            replace hbx := hide hbx
            go_wp2_with fail
            exact ⟨⟨k + 1, by omega, by first | rfl | go_num, by first | (rw [hat.out]; done) | (rw [hat.out]; first | rfl | go_num), hbx.out⟩, by simp only [intOf]; omega⟩
          · rw [decide_eq_false hB1] at hc1
            by_cases hB2 : kl ⟨ei.p, ei.i, i, ei.ok⟩ ⟨ek.p, ek.i, k, ek.ok⟩
            · rw [decide_eq_true hB2] at hc2
              rw [if_neg (fun h => by rcases hR.1 h with h | h; exact hB1 h; exact h.1 hB2)] at hat
              clear hR hB1 hB2
              replace hc1 := hide hc1
              replace hc2 := hide hc2
              replace hat := hide hat
              replace hbk := hide hbk
              go_upto_region 13 with fail
              refine wp_region_L (by as_aux_lemma => kernel_rfl) ?_
              refine wpE_seg 0 26 (fuel := 0) (by as_aux_lemma => kernel_rfl) (fun d _ _ _ _ h => by cases d <;> exact h) (by as_aux_lemma => kernel_rfl) (by as_aux_lemma => kernel_rfl) ?_
              simp only [List.drop_zero, List.take_succ_cons, List.take_zero]
              iterate 8 (refine wpQE_step (fun K hK => ?_); go_simp; refine hK _ ?_; clear hK K)
              (refine wpQE_step (fun K hK => ?_); go_simp; apply Exists.intro; refine ⟨fun l => ?_, hK _ ?_⟩; (go_at_call 39; refine (hc1.out l.w).mono ?_; rintro e w' ⟨rfl, hb⟩; exact ⟨rfl, hb⟩); clear hK K)
              iterate 9 (refine wpQE_step (fun K hK => ?_); go_simp; refine hK _ ?_; clear hK K)
              (refine wpQE_step (fun K hK => ?_); go_simp; apply Exists.intro; refine ⟨fun l => ?_, hK _ ?_⟩; (go_at_call 39; refine (hc2.out l.w).mono ?_; rintro e w' ⟨rfl, hb⟩; exact ⟨rfl, hb⟩); clear hK K)
              iterate 1 (refine wpQE_step (fun K hK => ?_); go_simp; refine hK _ ?_; clear hK K)
              refine wpQE_val_skip (.bool false) 3 (by as_aux_lemma => kernel_rfl) (fun l => rfl) (by as_aux_lemma => kernel_rfl) ?_
              dsimp only [putU, List.take_succ_cons, List.take_zero, List.drop_succ_cons, List.drop_zero, Act.put]
              go_simp
              iterate 2 (refine wpQE_step (fun K hK => ?_); go_simp; refine hK _ ?_; clear hK K)
              refine wpQE_nil ?_
              refine wpE_done (by as_aux_lemma => kernel_rfl) (fun w9 hb9 => ?_) 0
              clear f0 f1 f2 f3 g0 g1 g2 g3
              have hbx := hbk.out.trans (hb9.mono hbk.out.size)
              clear hb9 hbk hc1 hc2
              replace hbx := hide hbx
              go_wp2_with fail
              exact ⟨⟨k + 1, by omega, by first | rfl | go_num, by first | (rw [hat.out]; done) | (rw [hat.out]; first | rfl | go_num), hbx.out⟩, by simp only [intOf]; omega⟩
            · rw [decide_eq_false hB2] at hc2
              by_cases hki : k < i
              · have i8 : (k : Int) < (i : Int) := by omega
                rw [if_pos (hR.2 (.inr ⟨hB2, hki⟩))] at hat
                clear hR hB1 hB2
                replace hc1 := hide hc1
                replace hc2 := hide hc2
                replace hat := hide hat
                replace hbk := hide hbk
                go_upto_region 13 with fail
                refine wp_region_L (by as_aux_lemma => kernel_rfl) ?_
                refine wpE_seg 0 26 (fuel := 0) (by as_aux_lemma => kernel_rfl) (fun d _ _ _ _ h => by cases d <;> exact h) (by as_aux_lemma => kernel_rfl) (by as_aux_lemma => kernel_rfl) ?_
                simp only [List.drop_zero, List.take_succ_cons, List.take_zero]
                iterate 8 (refine wpQE_step (fun K hK => ?_); go_simp; refine hK _ ?_; clear hK K)
                (refine wpQE_step (fun K hK => ?_); go_simp; apply Exists.intro; refine ⟨fun l => ?_, hK _ ?_⟩; (go_at_call 39; refine (hc1.out l.w).mono ?_; rintro e w' ⟨rfl, hb⟩; exact ⟨rfl, hb⟩); clear hK K)
                iterate 9 (refine wpQE_step (fun K hK => ?_); go_simp; refine hK _ ?_; clear hK K)
                (refine wpQE_step (fun K hK => ?_); go_simp; apply Exists.intro; refine ⟨fun l => ?_, hK _ ?_⟩; (go_at_call 39; refine (hc2.out l.w).mono ?_; rintro e w' ⟨rfl, hb⟩; exact ⟨rfl, hb⟩); clear hK K)
                iterate 7 (refine wpQE_step (fun K hK => ?_); go_simp; refine hK _ ?_; clear hK K)
                refine wpQE_nil ?_
                refine wpE_done (by as_aux_lemma => kernel_rfl) (fun w9 hb9 => ?_) 0
                clear f0 f1 f2 f3 g0 g1 g2 g3
                have hbx := hbk.out.trans (hb9.mono hbk.out.size)
                clear hb9 hbk hc1 hc2
                replace hbx := hide hbx
                go_wp2_with fail
                exact ⟨⟨k + 1, by omega, by first | rfl | go_num, by first | (rw [hat.out]; done) | (rw [hat.out]; first | rfl | go_num), hbx.out⟩, by simp only [intOf]; omega⟩
              · have i8 : ¬ (k : Int) < (i : Int) := by omega
                rw [if_neg (fun h => by rcases hR.1 h with h | h; exact hB1 h; exact hki h.2)] at hat
                clear hR hB1 hB2
                replace hc1 := hide hc1
                replace hc2 := hide hc2
                replace hat := hide hat
                replace hbk := hide hbk
                go_upto_region 13 with fail
                refine wp_region_L (by as_aux_lemma => kernel_rfl) ?_
                refine wpE_seg 0 26 (fuel := 0) (by as_aux_lemma => kernel_rfl) (fun d _ _ _ _ h => by cases d <;> exact h) (by as_aux_lemma => kernel_rfl) (by as_aux_lemma => kernel_rfl) ?_
                simp only [List.drop_zero, List.take_succ_cons, List.take_zero]
                iterate 8 (refine wpQE_step (fun K hK => ?_); go_simp; refine hK _ ?_; clear hK K)
                (refine wpQE_step (fun K hK => ?_); go_simp; apply Exists.intro; refine ⟨fun l => ?_, hK _ ?_⟩; (go_at_call 39; refine (hc1.out l.w).mono ?_; rintro e w' ⟨rfl, hb⟩; exact ⟨rfl, hb⟩); clear hK K)
                iterate 9 (refine wpQE_step (fun K hK => ?_); go_simp; refine hK _ ?_; clear hK K)
                (refine wpQE_step (fun K hK => ?_); go_simp; apply Exists.intro; refine ⟨fun l => ?_, hK _ ?_⟩; (go_at_call 39; refine (hc2.out l.w).mono ?_; rintro e w' ⟨rfl, hb⟩; exact ⟨rfl, hb⟩); clear hK K)
                iterate 7 (refine wpQE_step (fun K hK => ?_); go_simp; refine hK _ ?_; clear hK K)
                refine wpQE_nil ?_
                refine wpE_done (by as_aux_lemma => kernel_rfl) (fun w9 hb9 => ?_) 0
                clear f0 f1 f2 f3 g0 g1 g2 g3
                have hbx := hbk.out.trans (hb9.mono hbk.out.size)
                clear hb9 hbk hc1 hc2
                replace hbx := hide hbx
                go_wp2_with fail
                exact ⟨⟨k + 1, by omega, by first | rfl | go_num, by first | (rw [hat.out]; done) | (rw [hat.out]; first | rfl | go_num), hbx.out⟩, by simp only [intOf]; omega⟩
        · obtain rfl : k = m := by omega
          have hlt2 : ((k : Int) < (k : Int)) = False := by simp
          have hzk := hbk.size
          have hxr := hs2.out.below hbk
          obtain ⟨bk, off, ei, hA3, hbkz, hri, hcelli⟩ := hxr.at pfK_len (by omega) him
          subst hA3
          have hbw : bk < wr.heap.size := by omega
          obtain ⟨a, ha⟩ : ∃ a, atC (X0 ls) i k = a := ⟨_, rfl⟩
          have hat2 := hat2.out
          rw [ha] at hat1 hat2 ⊢
          have hXi : X0 ls i = ⟨ei.p, ei.i, i, ei.ok⟩ := by unfold X0; rw [hri]
          rw [hXi] at hat2
          have hrowr := hrow.out.below hbk
          have i1 : (a : Int) < (k : Int) := by omega
          have f0 := fun l : Later wr => (hrowr.below l.hb).c0 hat1
          have f1 := fun l : Later wr => (hrowr.below l.hb).c1 hat1
          have f2 := fun l : Later wr => (hrowr.below l.hb).c2 hat1
          have f3 := fun l : Later wr => (hrowr.below l.hb).c3 hat1
          rw [hat2] at f0 f1 f2 f3
          dsimp only at f0 f1 f2 f3
          have g0 := fun l : Later wr => (World.cell?_of_block (l.hb.block bk hbw)).trans (hcelli 0 (.bool ei.p.v6) rfl)
          have g1 := fun l : Later wr => (World.cell?_of_block (l.hb.block bk hbw)).trans (hcelli 1 (.int .u64 (ei.p.hi : Int)) rfl)
          have g2 := fun l : Later wr => (World.cell?_of_block (l.hb.block bk hbw)).trans (hcelli 2 (.int .u64 (ei.p.lo : Int)) rfl)
          have g3 := fun l : Later wr => (World.cell?_of_block (l.hb.block bk hbw)).trans (hcelli 3 (.int .i64 ei.i) rfl)
          simp only [Nat.add_zero] at g0
          clear hcelli hxr hXi hri ha hat2 hrowr
          replace hbk := hide hbk
          go_upto_region 15 with fail
          refine wp_region_L (by as_aux_lemma => kernel_rfl) ?_
          refine wpE_seg 0 9 (fuel := 0) (by as_aux_lemma => kernel_rfl) (fun d _ _ _ _ h => by cases d <;> exact h) (by as_aux_lemma => kernel_rfl) (by as_aux_lemma => kernel_rfl) ?_
          simp only [List.drop_zero, List.take_succ_cons, List.take_zero]
          iterate 9 (refine wpQE_step (fun K hK => ?_); go_simp; refine hK _ ?_; clear hK K)
          refine wpQE_nil ?_
          refine wpE_done (by as_aux_lemma => kernel_rfl) (fun w9 hb9 => ?_) 0
          clear f0 f1 f2 f3 g0 g1 g2 g3
          have hbx := hbk.out.trans (hb9.mono hbk.out.size)
          clear hb9 hbk
          replace hbx := hide hbx
          go_wp2_with fail
          exact ⟨⟨i + 1, by omega, by first | rfl | go_num, hbx.out⟩, by simp only [intOf]; omega⟩
    · obtain rfl : i = m := by omega
      have hlt : ((i : Int) < (i : Int)) = False := by simp
      have hBr := hb2.out.trans (hbr.mono hb2.out.size)
      have hmr := hm2.out.below hbr
      have q1 := find_nil false 0 0 wr
      clear hbr
      replace hBr := hide hBr
      replace hmr := hide hmr
      replace q1 := hide q1
      go_wp2_with fail
      refine q1.out.mono ?_
      rintro e w5 ⟨rfl, hb5⟩
      have hB5 := hBr.out.trans (hb5.mono hBr.out.size)
      have hm5 := hmr.out.below hb5
      have q2 := put_nil false 0 0 0 1 w5
      clear q1 hb5 hBr hmr
      replace hB5 := hide hB5
      replace hm5 := hide hm5
      replace q2 := hide q2
      go_wp2_with fail
      refine q2.out.mono ?_
      rintro e w6 ⟨rfl, hb6⟩
      have hB6 := hB5.out.trans (hb6.mono hB5.out.size)
      have hm6 := hm5.out.below hb6
      have q3 := len_nil w6
      clear q2 hb6 hB5 hm5
      replace hB6 := hide hB6
      replace hm6 := hide hm6
      replace q3 := hide q3
      go_wp2_with fail
      refine q3.out.mono ?_
      rintro e w7 ⟨rfl, rfl⟩
      have q4 := hA.out w7 hm6.out
      clear q3
      replace q4 := hide q4
      go_wp2_with fail
      refine q4.out.mono ?_
      rintro e w8 ⟨rfl, hb8⟩
      have hB8 := hB6.out.trans (hb8.mono hB6.out.size)
      clear q4 hb8
      replace hB8 := hide hB8
      go_wp2_with fail
      go_ret
      exact ⟨rfl, hB8.out⟩
theorem psorts_row (A : Option Addr) (n c : Nat) (es : List PfK) (w : World) (hx : IsT pfK 4 w w.heap.size A n es ∧ ∀ x ∈ es, True) (hnc : n ≤ c) (hcm : c ≤ maxLen) (hm : MaxAt w) :
    Calls Tryd.prog 10 #[.slice A n c] w fun e w' => e = .returned (.bool true) ∧ Below w.heap.size w w' := psorts_walk A n c es w hx.1 hnc hcm hm
end Sort06
end Go.Proofs.YtccmbnaakdffaaaDoor
/- A row that lists variables, met: the wrap that keeps what they hold and the world's shape; the cell of bytealg.MaxLen. No condition. -/
namespace Go.Proofs.YtccmbnaakdffaaaDoor
open Go.RowKit Go.ChangeShapes Go.WideShapes Go.ChangeAt Go.Deep
theorem returns_laid {H : Type} {enc : TypeId × Value → H} {a : Assume} {C : Checked} {os : Os} {f : FuncId} {fn : Func} {s : ChangeSpec} {conds : List PathCond} {apart fresh handsOn again : Bool} {X : World → Array Value → Prop}
    (hX : ∀ (w w' : World) (args : Array Value), w.heap = w'.heap → X w args → X w' args)
    (own : ownKnob C.prog.godebug = none) (started : os.Started) (noInit : C.prog.inits.idxOf? f = none) (hfn : C.prog.funcs[f]? = some fn)
    (witness : ∃ (w : World) (tape : Tape) (i : Input), w.os = os ∧ (w.forCall tape i).Shaped C.prog ∧ i.vars = [] ∧ Input.okWide C.prog (w.forCall tape i) .any w.heap.size f i ∧
      ((s.pre enc C.prog fn conds apart (w.forCall tape i).memory i.args ∧ X (w.forCall tape i).memory i.args) ∧ sizedMet enc C.prog fn (OpenSpec.ofChange s) apart (w.forCall tape i).memory i.args) ∧ a.holds C.prog (lone (Frame.enter C.prog f i.args .normal) [] (w.forCall tape i)))
    (contract : ∀ (W : World) (base : Nat) (args : Array Value) (ds gs : List (DataW H)) (before : List MemPlace),
      (∀ (j : Nat) t v, fn.params[j]? = some t → args[j]? = some v → Value.okWide C.prog W .any base t v) →
      DataW.Whole enc C.prog fn.params.toList s.vars apart W args.toList ds gs before →
      conds.all (PathCond.test C.prog ⟨fn.params.toList, ds, s.plain.varTypes C.prog, gs⟩) = true →
      X W args → W.ShapedOpen C.prog →
      Calls C.prog f args W fun e W' => ∃ v, e = .returned v ∧ s.post enc C.prog fn apart fresh handsOn again W args v W') :
    ReturnsInHanded a C os f .any (fun w args => (s.pre enc C.prog fn conds apart w args ∧ X w args) ∧ sizedMet enc C.prog fn (OpenSpec.ofChange s) apart w args) (s.post enc C.prog fn apart fresh handsOn again) := by
  refine returnsInHanded_of_calls own started noInit witness ?_
  intro w tape i _ hsh _ hok hpre _
  obtain ⟨_, _, _, fn', hfn', _, _, _, _, hval⟩ := hok
  have e : fn' = fn := Option.some.inj (hfn'.symm.trans hfn)
  subst e
  obtain ⟨⟨⟨ds, gs, before, hw, hc⟩, hx⟩, _⟩ := hpre
  have hw' := DataW.Whole.of_heap (w' := w.forCall tape i) (by rfl) hw
  refine (contract (w.forCall tape i) w.heap.size i.args ds gs before hval hw' hc (hX _ _ _ (by rfl) hx) hsh).mono fun e W' ⟨v, he, hp⟩ => ?_
  subst he
  exact ChangeSpec.post_blind hp
theorem maxAt_of {w : World} (h : w.ShapedOpen Tryd.prog) : Addr05.MaxAt w :=
  cell_of_shapedOpen_int (t := 3) (zero := #[.int .i64 0]) h (of_decide_eq_true (by kernel_rfl)) (by kernel_rfl) rfl (by kernel_rfl) (by kernel_rfl) Tryd.underlying3
end Go.Proofs.YtccmbnaakdffaaaDoor
