/- pfx: plain: what a trie finds that prefixes were put in, one by one. No condition. -/
import Derived.Test.YtccmbnaakdffaaaDoorQPfxFinds1
import Derived.Test.YtccmbnaakdffaaaDoorQAddrParses9
namespace Go.Proofs.YtccmbnaakdffaaaDoor
open Go.RowKit Go.ChangeShapes Go.WideShapes Go.ChangeAt Go.Deep
namespace Addr05
/-- A prefix and its value. -/
structure PutE where
  p : Adr
  i : Int
  v : Int
deriving DecidableEq
def PutE.key (e : PutE) : List Nat := pkey e.p e.i.toNat
def PutE.right (e : PutE) : Bool := rightP e.p e.i
def stepM (M : Keys) (e : PutE) : Keys := if e.right = true then upd M e.key e.v else M
def keysOf (l : List PutE) : Keys := l.foldl stepM (fun _ => none)
def stepR (a : Adr) (r : Option (Int × Nat)) (e : PutE) : Option (Int × Nat) :=
  if hasP e.p e.i a = true ∧ (∀ q, r = some q → (q.2 : Int) ≤ e.i) then some (e.v, e.i.toNat) else r
def pickOf (a : Adr) (l : List PutE) : Option (Int × Nat) := l.foldl (stepR a) none
theorem keysOf_snoc (l : List PutE) (k : Nat) (e : PutE) (h : l[k]? = some e) : keysOf (l.take (k + 1)) = stepM (keysOf (l.take k)) e := by
  unfold keysOf
  rw [List.take_add_one, h]
  simp
theorem pickOf_snoc (a : Adr) (l : List PutE) (k : Nat) (e : PutE) (h : l[k]? = some e) : pickOf a (l.take (k + 1)) = stepR a (pickOf a (l.take k)) e := by
  unfold pickOf
  rw [List.take_add_one, h]
  simp
def bitsN (a : Adr) (k : Nat) : List Nat := (List.range k).map a.bit
theorem bitsN_len (a : Adr) (k : Nat) : (bitsN a k).length = k := by unfold bitsN; simp
theorem bitsN_take (a : Adr) (k n : Nat) (h : k ≤ n) : (bitsN a n).take k = bitsN a k := by
  unfold bitsN
  rw [← List.map_take, List.take_range, Nat.min_eq_left h]
theorem bitsN_eq (a b : Adr) (k : Nat) : bitsN a k = bitsN b k ↔ ∀ j, j < k → a.bit j = b.bit j := by
  unfold bitsN
  constructor
  · intro h j hj
    have := congrArg (fun l => l[j]?) h
    simpa [hj] using this
  · intro h
    apply List.map_congr_left
    intro j hj
    exact h j (List.mem_range.1 hj)
theorem vbit_inj (a b : Bool) (h : vbit a = vbit b) : a = b := by
  cases a <;> cases b <;> first | rfl | (exfalso; revert h; decide)
theorem hasP_iff (e : PutE) (a : Adr) (hp : e.p.ok) (ha : a.ok) (har : a.right) (hr : e.right = true) : hasP e.p e.i a = true ↔ vbit e.p.v6 = vbit a.v6 ∧ bitsN e.p e.i.toNat = (bitsN a a.w).take e.i.toNat ∧ e.i.toNat ≤ a.w := by
  have h0 : 0 ≤ e.i := by
    rcases Int.lt_or_le e.i 0 with h | h
    · unfold PutE.right at hr; rw [right_no2 _ _ h] at hr; cases hr
    · exact h
  obtain ⟨k, hk⟩ : ∃ k : Nat, e.i = (k : Int) := ⟨e.i.toNat, by omega⟩
  unfold PutE.right at hr
  rw [hk] at hr ⊢
  rw [Int.toNat_natCast]
  have hkw := (rightP_facts e.p k hr).2.1
  by_cases h6 : a.v6 = e.p.v6
  · have hw : a.w = e.p.w := by unfold Adr.w; rw [h6]
    rw [has_bits e.p k a hp ha har hr (by simp [h6]), bitsN_take a k a.w (by omega), bitsN_eq]
    exact ⟨fun h => ⟨by rw [h6], h, by omega⟩, fun h => h.2.1⟩
  · rw [has_no2 e.p _ a (by simpa using h6)]
    constructor
    · intro h; cases h
    · rintro ⟨h, -⟩
      exact absurd (vbit_inj _ _ h).symm h6
/-- The keys of one version. -/
def sub (M : Keys) (v : Nat) : Keys := fun q => M (v :: q)
theorem find_step (a : Adr) (ha : a.ok) (har : a.right) (M : Keys) (r : Option (Int × Nat)) (h : IsFind (sub M (vbit a.v6)) (bitsN a a.w) r) (e : PutE) (hp : e.p.ok) : IsFind (sub (stepM M e) (vbit a.v6)) (bitsN a a.w) (stepR a r e) := by
  unfold stepM stepR
  by_cases hr : e.right = true
  · rw [if_pos hr]
    have h0 : 0 ≤ e.i := by
      rcases Int.lt_or_le e.i 0 with h | h
      · unfold PutE.right at hr; rw [right_no2 _ _ h] at hr; cases hr
      · exact h
    have hiff := hasP_iff e a hp ha har hr
    by_cases hv : vbit e.p.v6 = vbit a.v6
    · have e1 : sub (upd M e.key e.v) (vbit a.v6) = upd (sub M (vbit a.v6)) (bitsN e.p e.i.toNat) e.v := by
        funext q
        unfold sub upd PutE.key pkey
        rw [hv]
        show (if (vbit a.v6 :: q) = vbit a.v6 :: bitsN e.p e.i.toNat then some e.v else _) = _
        by_cases hq : q = bitsN e.p e.i.toNat
        · rw [if_pos (by rw [hq]), if_pos hq]
        · rw [if_neg (fun h => hq (List.cons.inj h).2), if_neg hq]
      rw [e1]
      have h1 := h.put (bitsN e.p e.i.toNat) e.v
      rw [bitsN_len] at h1
      have e2 : (bitsN e.p e.i.toNat = (bitsN a a.w).take e.i.toNat ∧ e.i.toNat ≤ (bitsN a a.w).length ∧ (∀ p, r = some p → p.2 ≤ e.i.toNat)) ↔ (hasP e.p e.i a = true ∧ (∀ q, r = some q → (q.2 : Int) ≤ e.i)) := by
        rw [hiff, bitsN_len]
        constructor
        · rintro ⟨h1, h2, h3⟩
          exact ⟨⟨hv, h1, h2⟩, fun q hq => by have := h3 q hq; omega⟩
        · rintro ⟨⟨-, h1, h2⟩, h3⟩
          exact ⟨h1, h2, fun q hq => by have := h3 q hq; omega⟩
      by_cases hc : hasP e.p e.i a = true ∧ (∀ q, r = some q → (q.2 : Int) ≤ e.i)
      · rw [if_pos hc]
        rwa [if_pos (e2.2 hc)] at h1
      · rw [if_neg hc]
        rwa [if_neg (fun h => hc (e2.1 h))] at h1
    · rw [if_neg (fun h => hv (hiff.1 h.1).1)]
      have e1 : sub (upd M e.key e.v) (vbit a.v6) = sub M (vbit a.v6) := by
        funext q
        unfold sub upd PutE.key pkey
        rw [if_neg (fun h => hv (List.cons.inj h).1.symm)]
      rw [e1]
      exact h
  · rw [if_neg hr, if_neg]
    · exact h
    · rintro ⟨h1, -⟩
      rw [has_no1 e.p e.i a (by unfold PutE.right at hr; simpa using hr)] at h1
      cases h1
theorem find_all (a : Adr) (ha : a.ok) (har : a.right) : ∀ (l : List PutE), (∀ e ∈ l, e.p.ok) → ∀ (M : Keys) (r : Option (Int × Nat)), IsFind (sub M (vbit a.v6)) (bitsN a a.w) r → IsFind (sub (l.foldl stepM M) (vbit a.v6)) (bitsN a a.w) (l.foldl (stepR a) r)
  | [], _, _, _, h => h
  | e :: l, hl, M, r, h => find_all a ha har l (fun x hx => hl x (List.mem_cons_of_mem _ hx)) _ _ (find_step a ha har M r h e (hl e List.mem_cons_self))
theorem best_spec (m : Nat → Option Int) : ∀ i, match best m i with
    | none => ∀ j, j < i → m j = none
    | some p => p.2 < i ∧ m p.2 = some p.1 ∧ ∀ j, p.2 < j → j < i → m j = none
  | 0 => fun j h => by omega
  | i + 1 => by
    have ih := best_spec m i
    rw [best]
    cases hm : m i with
    | some v => exact ⟨by dsimp only; omega, hm, fun j h1 h2 => by dsimp only at h1; omega⟩
    | none =>
      dsimp only
      cases hb : best m i with
      | none =>
        rw [hb] at ih
        intro j hj
        rcases Nat.lt_or_ge j i with h | h
        · exact ih j h
        · rw [show j = i by omega]; exact hm
      | some p =>
        rw [hb] at ih
        exact ⟨by omega, ih.2.1, fun j h1 h2 => by
          rcases Nat.lt_or_ge j i with h | h
          · exact ih.2.2 j h1 h
          · rw [show j = i by omega]; exact hm⟩
theorem best_find (a : Adr) (M : Keys) : IsFind (sub M (vbit a.v6)) (bitsN a a.w) (best (fun j => M (pkey a j)) (a.w + 1)) := by
  have h := best_spec (fun j => M (pkey a j)) (a.w + 1)
  have e : ∀ j, j ≤ a.w → sub M (vbit a.v6) ((bitsN a a.w).take j) = M (pkey a j) := fun j hj => by
    rw [bitsN_take a j a.w hj]
    rfl
  cases hb : best (fun j => M (pkey a j)) (a.w + 1) with
  | none =>
    rw [hb] at h
    intro j hj
    rw [bitsN_len] at hj
    rw [e j hj]
    exact h j (by omega)
  | some p =>
    rw [hb] at h
    obtain ⟨v, n⟩ := p
    obtain ⟨h1, h2, h3⟩ := h
    dsimp only at h1 h2 h3
    refine ⟨by rw [bitsN_len]; omega, by rw [e n (by omega)]; exact h2, fun j h4 h5 => ?_⟩
    rw [bitsN_len] at h5
    rw [e j h5]
    exact h3 j h4 (by omega)
/-- What Find tells is what the law picks. -/
theorem find_pick (a : Adr) (ha : a.ok) (har : a.right) (l : List PutE) (hl : ∀ e ∈ l, e.p.ok) : best (fun j => keysOf l (pkey a j)) (a.w + 1) = pickOf a l :=
  (best_find a (keysOf l)).unique (find_all a ha har l hl _ none (fun _ _ => rfl))
theorem key_inj (e d : PutE) (he : e.p.ok) (hd : d.p.ok) (hre : e.right = true) (hrd : d.right = true) (h : e.key = d.key) : e.p = d.p ∧ e.i = d.i := by
  have pos : ∀ x : PutE, x.right = true → ∃ k : Nat, x.i = (k : Int) := fun x hx => by
    rcases Int.lt_or_le x.i 0 with h | h
    · unfold PutE.right at hx; rw [right_no2 _ _ h] at hx; cases hx
    · exact ⟨x.i.toNat, by omega⟩
  obtain ⟨k, hk⟩ := pos e hre
  obtain ⟨k', hk'⟩ := pos d hrd
  unfold PutE.key at h
  rw [hk, hk', Int.toNat_natCast, Int.toNat_natCast] at h
  unfold PutE.right at hre hrd
  rw [hk] at hre
  rw [hk'] at hrd
  have hlen : k = k' := by
    have := congrArg List.length h
    unfold pkey at this
    simpa using this
  subst hlen
  obtain ⟨h1, h2⟩ := List.cons.inj h
  have h6 := vbit_inj _ _ h1
  have hb := (bitsN_eq e.p d.p k).1 h2
  obtain ⟨hr1, hw1, hm1⟩ := rightP_facts e.p k hre
  obtain ⟨hr2, hw2, hm2⟩ := rightP_facts d.p k hrd
  have h3 := (d.p.mask_eq2 e.p hd hr2 he hr1 h6.symm k hw2 hm1).2 hb
  rw [hm2] at h3
  exact ⟨h3.symm, by rw [hk, hk']⟩
theorem keys_some (l : List PutE) : ∀ (q : List Nat) (M : Keys), (l.foldl stepM M q).isSome = true ↔ (M q).isSome = true ∨ ∃ e ∈ l, e.right = true ∧ e.key = q := by
  induction l with
  | nil => intro q M; simp
  | cons e l ih =>
    intro q M
    rw [List.foldl_cons, ih]
    unfold stepM
    by_cases hr : e.right = true
    · rw [if_pos hr]
      unfold upd
      by_cases hq : q = e.key
      · rw [if_pos hq]
        simp [hr, hq]
      · rw [if_neg hq]
        simp [hr, Ne.symm hq]
    · rw [if_neg hr]
      simp [hr]
/-- Is a prefix not among the first ones? -/
def freshB (l : List PutE) (k : Nat) (e : PutE) : Bool := (l.take k).all fun d => !(decide (d.p = e.p ∧ d.i = e.i))
theorem fresh_keys (l : List PutE) (k : Nat) (e : PutE) (hl : ∀ x ∈ l, x.p.ok) (he : e.p.ok) (hr : e.right = true) : freshB l k e = !(keysOf (l.take k) e.key).isSome := by
  rw [Bool.eq_iff_iff]
  unfold freshB keysOf
  rw [Bool.not_eq_true', ← Bool.not_eq_true, keys_some, List.all_eq_true]
  constructor
  · rintro h (h1 | ⟨d, hd, h1, h2⟩)
    · cases h1
    · have h3 := h d hd
      obtain ⟨h4, h5⟩ := key_inj d e (hl d (List.mem_of_mem_take hd)) he h1 hr h2
      simp [h4, h5] at h3
  · intro h d hd
    by_cases hde : d.p = e.p ∧ d.i = e.i
    · refine absurd (.inr ⟨d, hd, ?_, ?_⟩) h
      · unfold PutE.right at hr ⊢; rw [hde.1, hde.2]; exact hr
      · unfold PutE.key; rw [hde.1, hde.2]
    · simp [hde]
theorem fresh_snoc (l : List PutE) (k : Nat) (e d : PutE) (h : l[k]? = some d) : freshB l (k + 1) e = (freshB l k e && !(decide (d.p = e.p ∧ d.i = e.i))) := by
  unfold freshB
  rw [List.take_add_one, h]
  simp
end Addr05
end Go.Proofs.YtccmbnaakdffaaaDoor
/- pfx: a slice of prefixes with values, as it is opened. No condition. -/
namespace Go.Proofs.YtccmbnaakdffaaaDoor
open Go.RowKit Go.ChangeShapes Go.WideShapes Go.ChangeAt Go.Deep
namespace Addr05
def putC (e : PutE) : List Value := [.bool e.p.v6, .int .u64 (e.p.hi : Int), .int .u64 (e.p.lo : Int), .int .i64 e.i, .int .i64 e.v]
def PutE.ok (e : PutE) : Prop := e.p.ok ∧ (-9223372036854775808 ≤ e.i ∧ e.i ≤ 9223372036854775807) ∧ (-9223372036854775808 ≤ e.v ∧ e.v ≤ 9223372036854775807)
theorem leafsPut : leafsOf Tryd.prog 5 66 0 = some [(4, 0), (22, 1), (22, 2), (3, 3), (3, 4)] := by kernel_rfl
theorem cellsPut : Tryd.prog.cellsOf 66 = 5 := by kernel_rfl
section
variable {H : Type} {enc : TypeId × Value → H} {w : World} {spare : Nat → Bool} {held : Bool}
theorem open_u64n {m : Nat} {v : Value} {y : DataW H × List MemPlace} (h : DataW.trod enc Tryd.prog w 0 spare held m 22 [v] = some y) : ∃ n : Nat, v = .int .u64 (n : Int) ∧ n < 18446744073709551616 := by
  obtain ⟨n, e, _, hw⟩ := DataW.trod_int Tryd.underlying22 h
  cases e
  obtain ⟨k, rfl, hk⟩ := u64_nat hw
  exact ⟨k, rfl, hk⟩
theorem open_puts {m : Nat} {v : Value} {y : DataW H × List MemPlace} (h : DataW.trod enc Tryd.prog w 0 spare held m 56 [v] = some y) :
    ∃ A n c es, v = .slice A n c ∧ (IsT putC 5 w w.heap.size A n es ∧ ∀ x ∈ es, PutE.ok x) ∧ n ≤ c ∧ c ≤ maxLen :=
  open_structs PutE.ok Tryd.underlying56 cellsPut (by omega) (fun n cs y h hcl => by
    have hlf := trod_leafs cs 5 66 0 _ n y leafsPut (by rw [cellsPut, List.drop_zero, List.take_of_length_le (by omega)]; exact h)
    match cs, hcl with
    | [a, b, c, d, e], _ =>
      obtain ⟨_, _, t0⟩ := hlf 4 0 (by simp)
      obtain ⟨_, _, t1⟩ := hlf 22 1 (by simp)
      obtain ⟨_, _, t2⟩ := hlf 22 2 (by simp)
      obtain ⟨_, _, t3⟩ := hlf 3 3 (by simp)
      obtain ⟨_, _, t4⟩ := hlf 3 4 (by simp)
      simp only [List.drop_succ_cons, List.drop_zero, List.take_succ_cons, List.take_zero] at t0 t1 t2 t3 t4
      obtain ⟨v6, rfl⟩ := open_bool' t0
      obtain ⟨hi, rfl, h1⟩ := open_u64n t1
      obtain ⟨lo, rfl, h2⟩ := open_u64n t2
      obtain ⟨i, rfl, h3⟩ := open_i64 t3
      obtain ⟨u, rfl, h4⟩ := open_i64 t4
      exact ⟨⟨⟨v6, hi, lo⟩, i, u⟩, rfl, ⟨h1, h2⟩, i64_wf h3, i64_wf h4⟩) h
end
end Addr05
end Go.Proofs.YtccmbnaakdffaaaDoor
/- The walk of PfxFinds: it answers true. Condition: the cell of bytealg.MaxLen. -/
namespace Go.Proofs.YtccmbnaakdffaaaDoor
open Go.RowKit Go.ChangeShapes Go.WideShapes Go.ChangeAt Go.Deep
namespace Addr05
def N0 (g : Nat) : Nodes := fun p => if p = [0] then some ⟨g, 0, none⟩ else if p = [1] then some ⟨g, 4, none⟩ else none
theorem trie_new (w : World) (g : Nat) (h : w.heap[g]? = some (.cells #[.pointer none, .pointer none, .int .i64 0, .bool false, .pointer none, .pointer none, .int .i64 0, .bool false, .int .i64 0] 64 (0, 0))) : TrieAt w g (N0 g) (fun _ => none) 0 := by
  have hN : ∀ p a, N0 g p = some a → (p = [0] ∧ a = ⟨g, 0, none⟩) ∨ (p = [1] ∧ a = ⟨g, 4, none⟩) := by
    intro p a hp
    unfold N0 at hp
    split at hp
    · cases hp; exact .inl ⟨by assumption, rfl⟩
    · split at hp
      · cases hp; exact .inr ⟨by assumption, rfl⟩
      · cases hp
  have hl : ∀ p b, p ≠ [] → N0 g (p ++ [b]) = none := by
    intro p b hp
    unfold N0
    have h1 : ∀ c : Nat, p ++ [b] ≠ [c] := fun c e => by
      have := congrArg List.length e
      simp at this
      exact hp this
    rw [if_neg (h1 0), if_neg (h1 1)]
  refine ⟨?_, fun p b hp _ => hl p b hp, fun _ _ => rfl, ?_, ?_, ?_, ?_, ⟨_, h, rfl, rfl⟩⟩
  · intro v hv
    have : v = 0 ∨ v = 1 := by omega
    rcases this with rfl | rfl <;> rfl
  · intro p a hp
    rcases hN p a hp with ⟨rfl, rfl⟩ | ⟨rfl, rfl⟩
    · exact ⟨rfl, _, _, h, by simp, by rw [hl _ _ (by simp)]; rfl, by rw [hl _ _ (by simp)]; rfl, rfl, rfl⟩
    · exact ⟨rfl, _, _, h, by simp, by rw [hl _ _ (by simp)]; rfl, by rw [hl _ _ (by simp)]; rfl, rfl, rfl⟩
  · intro p q a c hp hq hne _
    rcases hN p a hp with ⟨rfl, rfl⟩ | ⟨rfl, rfl⟩ <;> rcases hN q c hq with ⟨rfl, rfl⟩ | ⟨rfl, rfl⟩
    · exact absurd rfl hne
    · left; exact Nat.le_refl 4
    · right; exact Nat.le_refl 4
    · exact absurd rfl hne
  · intro p a hp _
    rcases hN p a hp with ⟨rfl, rfl⟩ | ⟨rfl, rfl⟩
    · exact (by omega : 0 + 4 ≤ 8)
    · exact Nat.le_refl 8
  · intro p a hp
    rcases hN p a hp with ⟨rfl, rfl⟩ | ⟨rfl, rfl⟩ <;> exact Nat.le_refl _
theorem TrieAt.frame {w w' : World} {g : Nat} {N : Nodes} {M : Keys} {n : Int} (h : TrieAt w g N M n) (hk : KeptS w.heap.size (isNode N) w w') : Below g w w' :=
  ⟨hk.os, hk.tape, hk.output, hk.size, fun k hkg => hk.block k (by have := h.gLt; omega) (fun ⟨p, a, hp, e⟩ => by have := h.ge p a hp; omega)⟩
def lawL (r : Option (Int × Nat)) : Int := match r with | none => -1 | some p => (p.2 : Int)
/-- What the law holds behind so many puts. -/
def rrOf (RB : Bool) (a : Adr) (l : List PutE) : Option (Int × Nat) := if RB = true then pickOf a l else none
theorem rr_snoc (RB : Bool) (a : Adr) (l : List PutE) (k : Nat) (e : PutE) (h : l[k]? = some e) : rrOf RB a (l.take (k + 1)) = if RB = true ∧ hasP e.p e.i a = true ∧ lawL (rrOf RB a (l.take k)) ≤ e.i then some (e.v, e.i.toNat) else rrOf RB a (l.take k) := by
  unfold rrOf
  cases RB
  · rfl
  · simp only [if_true, true_and]
    rw [pickOf_snoc a l k e h]
    unfold stepR
    by_cases hh : hasP e.p e.i a = true
    · have h0 : 0 ≤ e.i := by
        rcases Int.lt_or_le e.i 0 with h1 | h1
        · rw [has_no1 e.p e.i a (right_no2 _ _ h1)] at hh; cases hh
        · exact h1
      have e1 : (∀ q, pickOf a (l.take k) = some q → (q.2 : Int) ≤ e.i) ↔ lawL (pickOf a (l.take k)) ≤ e.i := by
        cases pickOf a (l.take k) with
        | none => exact ⟨fun _ => by show (-1 : Int) ≤ e.i; omega, fun _ q hq => by cases hq⟩
        | some p => exact ⟨fun h => h p rfl, fun h q hq => by cases hq; exact h⟩
      simp only [e1]
    · rw [if_neg (fun h => hh h.1), if_neg (fun h => hh h.1)]
/-- What lies there behind one put. -/
def AfterP (g q : Nat) (M : Keys) (n : Int) (o : Obj) (wc wx : World) : Prop := ∃ N', TrieAt wx g N' M n ∧ Below g wc wx ∧ wx.heap[q]? = some o
set_option maxRecDepth 20000 in
set_option maxHeartbeats 8000000 in
theorem pfinds_walk (A0 : Option Addr) (n0 c0 : Nat) (es0 : List PutE) (a : Adr) (hoa : a.ok) (w : World) (hx0 : IsT putC 5 w w.heap.size A0 n0 es0) (hes0 : ∀ x ∈ es0, PutE.ok x) (hnc0 : n0 ≤ c0) (hcm0 : c0 ≤ maxLen) (hm : MaxAt w) :
    Calls Tryd.prog 9 #[.slice A0 n0 c0, .agg #[.bool a.v6, .int .u64 (a.hi : Int), .int .u64 (a.lo : Int)]] w fun e w' => e = .returned (.bool true) ∧ Below w.heap.size w w' := by
  have hputC : ∀ x, (putC x).length = 5 := fun _ => rfl
  have hl0 := hx0.1
  obtain ⟨w1, hw1⟩ : ∃ w1, w.alloc (.cells #[.bool a.v6, .int .u64 (a.hi : Int), .int .u64 (a.lo : Int)] 24) = w1 := ⟨_, rfl⟩
  have hB : Below w.heap.size w w1 := hw1 ▸ (Below.refl _ _).alloc (Nat.le_refl _) _
  have hg : w1.heap[w.heap.size]? = some (.cells #[.bool a.v6, .int .u64 (a.hi : Int), .int .u64 (a.lo : Int)] 24 (0, 0)) := hw1 ▸ blk_new _ _ _
  have hzw : w.heap.size < w1.heap.size := by rw [← hw1]; simp
  have hx1 := hx0.on hB
  clear hx0
  replace hB := hide hB
  replace hg := hide hg
  replace hm := hide hm
  replace hx1 := hide hx1
  replace hes0 := hide hes0
  go_enter Tryd.func9, Tryd.ntmps9
  go_upto_if 19 with fail
  clear hw1
  go_cut [0] (fun sv wx => (∃ A n c es, sv = .slice A n c ∧ IsT putC 5 w1 w1.heap.size A n es ∧ (∀ x ∈ es, PutE.ok x) ∧ n ≤ 30 ∧ n ≤ c ∧ c ≤ maxLen) ∧ w1 = wx)
  case first =>
    by_cases h30 : 30 < n0
    · have t1 : decide ((30 : Int) < (n0 : Int)) = true := by rw [decide_eq_true_eq]; omega
      have i1 : (30 : Int) ≤ (c0 : Int) := by omega
      obtain ⟨b, off, x, rfl, -⟩ := hx1.out.at hputC (by omega) (show 0 < n0 by omega)
      go_wp2_with fail
      go_meet
      exact ⟨⟨_, 30, c0, es0.take 30, rfl, hx1.out.take hputC (by omega), fun x hx => hes0.out x (List.mem_of_mem_take hx), Nat.le_refl _, by omega, hcm0⟩, rfl⟩
    · have t1 : decide ((30 : Int) < (n0 : Int)) = false := by rw [decide_eq_false_iff_not]; omega
      go_wp2_with fail
      go_meet
      exact ⟨⟨A0, n0, c0, es0, rfl, hx1.out, hes0.out, by omega, hnc0, hcm0⟩, rfl⟩
  case rest =>
    obtain ⟨⟨A, L, c, es, rfl, hx, hes, hL30, hLc, hcm⟩, rfl⟩ := hcut
    clear hx1 hes0 hnc0 hcm0 hl0
    have hlen := hx.1
    have hnew := blk_new w1 64 #[.pointer none, .pointer none, .int .i64 0, .bool false, .pointer none, .pointer none, .int .i64 0, .bool false, .int .i64 0]
    obtain ⟨w3, hw3⟩ : ∃ w3, w1.alloc (.cells #[.pointer none, .pointer none, .int .i64 0, .bool false, .pointer none, .pointer none, .int .i64 0, .bool false, .int .i64 0] 64) = w3 := ⟨_, rfl⟩
    have hB13 : Below w1.heap.size w1 w3 := hw3 ▸ (Below.refl _ _).alloc (Nat.le_refl _) _
    have hz3 : w1.heap.size < w3.heap.size := by rw [← hw3]; simp
    rw [hw3] at hnew
    have hT3 := trie_new w3 _ hnew
    obtain ⟨g, hge⟩ : ∃ g, w1.heap.size = g := ⟨_, rfl⟩
    rw [hge] at hT3 hB13 hz3 hzw hx
    have hg3 := (hB13.block _ hzw).trans hg.out
    have hB3 := hB.out.trans (hB13.mono (by omega))
    have hx3 := hx.below hB13
    clear hx hB13 hB hg hnew
    have hRa := fun w => Right_any a.v6 a.hi a.lo w
    have hri := rightB_iff a
    have hfn := fun h w => find_no g a h w
    have hfy := fun h w N M n hT => find_yes g a hoa h w N M n hT
    have hfp := fun har => find_pick a hoa har es (fun e he => (hes e he).1)
    have hsn := fun RB k e h => rr_snoc RB a es k e h
    have hkn := fun k e h => keysOf_snoc es k e h
    have hfk := fun k e he hr => fresh_keys es k e (fun x hx => (hes x hx).1) he hr
    have hfs := fun k e d h => fresh_snoc es k e d h
    have hH := fun (e : PutE) he har w => phas_any e.p he e.i a hoa har w
    have hA := pawake_any
    obtain ⟨RB, hRB⟩ : ∃ x, rightB a.v6 a.hi a.lo = x := ⟨_, rfl⟩
    rw [hRB] at hRa hri hfn hfy
    replace hRa := hide hRa
    replace hri := hide hri
    replace hfn := hide hfn
    replace hfy := hide hfy
    replace hfp := hide hfp
    replace hsn := hide hsn
    replace hkn := hide hkn
    replace hfk := hide hfk
    replace hfs := hide hfs
    replace hH := hide hH
    replace hA := hide hA
    replace hes := hide hes
    replace hT3 := hide hT3
    replace hg3 := hide hg3
    replace hB3 := hide hB3
    replace hx3 := hide hx3
    replace hge := hide hge
    replace hRB := hide hRB
    go_wp2_with fail
    clear hw3
    rw [hge.out]
    go_loopw [6, 7, 8, 9, 10, 11, 12, 13] (fun mv vv lv iv _ _ _ _ wr => ∃ (i : Nat) (N : Nodes) (n : Nat), i ≤ L ∧ iv = .int .i64 (i : Int) ∧ mv = .int .i64 (n : Int) ∧ vv = .int .i64 (fV (rrOf RB a (es.take i))) ∧ lv = .int .i64 (lawL (rrOf RB a (es.take i))) ∧ n ≤ i ∧ TrieAt wr g N (keysOf (es.take i)) (n : Int) ∧ Below g w3 wr) (fun _ _ _ iv _ _ _ _ _ => L - (intOf iv).toNat)
    case atStart =>
      refine ⟨0, _, 0, by omega, rfl, rfl, ?_, ?_, by omega, hT3.out, Below.refl _ _⟩
      · cases RB <;> rfl
      · cases RB <;> rfl
    case round =>
      obtain ⟨i, N, n, hi, rfl, rfl, rfl, rfl, hni, hT, hbr⟩ := hrel
      have hzr := hbr.size
      have hgr := (hbr.block _ hzw).trans hg3.out
      have hBr := hB3.out.trans (hbr.mono (by omega))
      have hxr := hx3.out.below hbr
      replace hT := hide hT
      replace hbr := hide hbr
      replace hgr := hide hgr
      replace hBr := hide hBr
      replace hxr := hide hxr
      by_cases hiL : i < L
      · have i1 : (i : Int) < (L : Int) := by omega
        have i2 : (0 : Int) ≤ (i : Int) := by omega
        obtain ⟨b, off, e, rfl, hb, hei, hcell⟩ := hxr.out.at hputC (by omega) hiL
        have heok := hes.out e (List.mem_of_getElem? hei)
        have hk1 := hkn.out i e hei
        have hr1 := hsn.out RB i e hei
        have hfr := hfk.out i e heok.1
        have hHe := fun har => hH.out e heok.1 har
        have hRp := fun w => pright_any e.p heok.1 e.i w
        have hno := fun h w => put_no g e.p heok.1 e.i e.v h w
        have hyes := fun k h w N M n h0 hn hT => put_yes g e.p heok.1 k e.v h w N M n h0 hn hT
        obtain ⟨RP, hRPe⟩ : ∃ x, rightP e.p e.i = x := ⟨_, rfl⟩
        have hRPr : e.right = RP := hRPe
        have hpos : RP = true → ∃ k : Nat, e.i = (k : Int) ∧ k ≤ 128 := fun h => by
          rw [← hRPe] at h
          rcases Int.lt_or_le e.i 0 with h1 | h1
          · rw [right_no2 _ _ h1] at h; cases h
          · obtain ⟨k, hk⟩ : ∃ k : Nat, e.i = (k : Int) := ⟨e.i.toNat, by omega⟩
            rw [hk] at h
            exact ⟨k, hk, Nat.le_trans (rightP_facts _ _ h).2.1 (Adr.w_le _)⟩
        have hp0 : hasP e.p e.i a = true → ((e.i.toNat : Nat) : Int) = e.i := fun h => by
          rcases Int.lt_or_le e.i 0 with h1 | h1
          · rw [has_no1 e.p e.i a (right_no2 _ _ h1)] at h; cases h
          · omega
        rw [hRPe] at hRp hno
        obtain ⟨HP, hHP⟩ : ∃ x, hasP e.p e.i a = x := ⟨_, rfl⟩
        rw [hHP] at hr1 hHe hp0
        rw [hRPr] at hfr
        have c0 : wr.cell? ⟨b, off + i * 5, none⟩ = some (.bool e.p.v6) := hcell 0 _ rfl
        have c1 : wr.cell? ⟨b, off + i * 5 + 1, none⟩ = some (.int .u64 (e.p.hi : Int)) := hcell 1 _ rfl
        have c2 : wr.cell? ⟨b, off + i * 5 + 2, none⟩ = some (.int .u64 (e.p.lo : Int)) := hcell 2 _ rfl
        have c3 : wr.cell? ⟨b, off + i * 5 + 3, none⟩ = some (.int .i64 e.i) := hcell 3 _ rfl
        have c4 : wr.cell? ⟨b, off + i * 5 + 4, none⟩ = some (.int .i64 e.v) := hcell 4 _ rfl
        clear hcell
        have heiok := heok.2.1
        unfold pArr at hRp hHe hno hyes
        replace hk1 := hide hk1
        replace hr1 := hide hr1
        replace hfr := hide hfr
        replace hHe := hide hHe
        replace hRp := hide hRp
        replace hno := hide hno
        replace hyes := hide hyes
        replace hpos := hide hpos
        replace hRPe := hide hRPe
        replace hRPr := hide hRPr
        replace hHP := hide hHP
        replace heok := hide heok
        replace hei := hide hei
        replace hp0 := hide hp0
        go_upto_region 9 with fail
        apply wp_region_lit
        iterate 5 (refine wpList_plain rfl fun K hK => ?_; go_simp; refine hK _ _ ?_; clear hK K)
        refine wpl_new rfl rfl 45 _ (alloc_pfx _ rfl) 10 rfl (.tmp 34) rfl _ (fun _ => rfl) (fun _ => rfl) rfl (by kernel_rfl) (p_one e.p.v6 (e.p.hi : Int) (e.p.lo : Int) e.i) ?_
        intro w5 hq5 hb5 hz5
        obtain ⟨q, hqe⟩ : ∃ q, wr.heap.size = q := ⟨_, rfl⟩
        have hT5 := hT.out.below hb5
        have hNq : ∀ p c, N p = some c → c.block ≠ q := fun p c h e => by have := (hT.out.shape p c h).lt; omega
        have hbr5 := hbr.out.trans (hb5.mono (by omega))
        have hBr5 := hBr.out.trans (hb5.mono hBr.out.size)
        have hg5 := (hb5.block _ (by omega)).trans hgr.out
        have d0 := (World.cell?_of_block (hb5.block b (by omega))).trans c0
        have d1 := (World.cell?_of_block (hb5.block b (by omega))).trans c1
        have d2 := (World.cell?_of_block (hb5.block b (by omega))).trans c2
        have d3 := (World.cell?_of_block (hb5.block b (by omega))).trans c3
        have d4 := (World.cell?_of_block (hb5.block b (by omega))).trans c4
        rw [hqe] at hq5 hz5 ⊢
        have hgq : g ≤ q := by omega
        have hx5 := hx3.out.below hbr5
        clear c0 c1 c2 c3 c4 hb5 hT hbr hBr hgr hxr
        replace hq5 := hide hq5
        replace hT5 := hide hT5
        replace hNq := hide hNq
        replace hbr5 := hide hbr5
        replace hBr5 := hide hBr5
        replace hg5 := hide hg5
        replace d0 := hide d0
        replace d1 := hide d1
        replace d2 := hide d2
        replace d3 := hide d3
        replace d4 := hide d4
        replace hqe := hide hqe
        replace hx5 := hide hx5
        refine wpList_nil ?_
        go_simp
        have hcq := blk_cell hq5.out
        go_wp2_with fail
        refine (hRp.out w5).mono ?_
        rintro e' w6 ⟨rfl, hb6⟩
        obtain ⟨FB, hFB⟩ : ∃ x, freshB es i e = x := ⟨_, rfl⟩
        obtain ⟨n2, hn2⟩ : ∃ x, (if (RP && FB) = true then n + 1 else n) = x := ⟨_, rfl⟩
        obtain ⟨wt, hwt⟩ : ∃ x : Int, (if RP = true then 0 else 1) = x := ⟨_, rfl⟩
        have hz6 := hb6.size
        have hq6 := blk_below hb6 hz5 hq5.out
        have hT6 := hT5.out.below hb6
        have hbr6 := hbr5.out.trans (hb6.mono (by omega))
        have hBr6 := hBr5.out.trans (hb6.mono hBr5.out.size)
        have hx6 := hx3.out.below hbr6
        clear hcq hq5 hT5 hbr5 hBr5 hb6 hx5 hRp d0 d1 d2 d3 d4 hg5
        replace hq6 := hide hq6
        replace hT6 := hide hT6
        replace hbr6 := hide hbr6
        replace hBr6 := hide hBr6
        replace hFB := hide hFB
        replace hn2 := hide hn2
        replace hwt := hide hwt
        replace hx6 := hide hx6
        go_upto_if 36 with fail
        go_cut [6, 11, 12, 13] from 24 to 84 (fun mv wv _ _ wx => mv = .int .i64 (n2 : Int) ∧ wv = .int .i64 wt ∧ Below w6.heap.size w6 wx)
        case first =>
          have hn2' := hn2.out
          have hwt' := hwt.out
          cases RP
          · obtain rfl : n = n2 := hn2'
            obtain rfl : (1 : Int) = wt := hwt'
            clear hn2 hwt
            go_wp2_with fail
            go_meet
            exact ⟨rfl, rfl, Below.refl _ _⟩
          · obtain rfl : (0 : Int) = wt := hwt'
            clear hwt
            replace hn2' := hide hn2'
            go_wp2_with fail
            go_loopw [12, 13] (fun fv kv wk => ∃ k : Nat, k ≤ i ∧ kv = .int .i64 (k : Int) ∧ fv = .bool (freshB es k e) ∧ Below w6.heap.size w6 wk) (fun _ kv _ => i - (intOf kv).toNat)
            case atStart => exact ⟨0, by omega, rfl, by unfold freshB; simp, Below.refl _ _⟩
            case round =>
              obtain ⟨k, hk, rfl, rfl, hbk⟩ := hrel
              by_cases hki : k < i
              · have j1 : (k : Int) < (i : Int) := by omega
                have j2 : (0 : Int) ≤ (k : Int) := by omega
                have j3 : (k : Int) < (L : Int) := by omega
                obtain ⟨b', off', d, hbo, hb', hdk, hcell⟩ := hx6.out.at hputC (by omega) (show k < L by omega)
                cases hbo
                have hfk1 := hfs.out k e d hdk
                obtain ⟨FBk, hFBk⟩ : ∃ x, freshB es k e = x := ⟨_, rfl⟩
                rw [hFBk]
                have hzk := hbk.size
                have hbg : b < w6.heap.size := by omega
                have l0 : ∀ l : Later wr, l.w.cell? ⟨b, off + k * 5, none⟩ = some (.bool d.p.v6) := fun l => (World.cell?_of_block (l.hb.block b (by omega))).trans ((World.cell?_of_block (hbk.block b hbg)).trans (hcell 0 _ rfl))
                have l1 : ∀ l : Later wr, l.w.cell? ⟨b, off + k * 5 + 1, none⟩ = some (.int .u64 (d.p.hi : Int)) := fun l => (World.cell?_of_block (l.hb.block b (by omega))).trans ((World.cell?_of_block (hbk.block b hbg)).trans (hcell 1 _ rfl))
                have l2 : ∀ l : Later wr, l.w.cell? ⟨b, off + k * 5 + 2, none⟩ = some (.int .u64 (d.p.lo : Int)) := fun l => (World.cell?_of_block (l.hb.block b (by omega))).trans ((World.cell?_of_block (hbk.block b hbg)).trans (hcell 2 _ rfl))
                have l3 : ∀ l : Later wr, l.w.cell? ⟨b, off + k * 5 + 3, none⟩ = some (.int .i64 d.i) := fun l => (World.cell?_of_block (l.hb.block b (by omega))).trans ((World.cell?_of_block (hbk.block b hbg)).trans (hcell 3 _ rfl))
                have hqk := (hbk.block q (by omega)).trans hq6.out
                have lq := fun l : Later wr => blk_cell ((l.hb.block q (by omega)).trans hqk)
                clear hcell
                cases FBk
                · skip
                  replace hbk := hide hbk
                  replace hqk := hide hqk
                  replace hfk1 := hide hfk1
                  replace hFBk := hide hFBk
                  replace hdk := hide hdk
                  replace hki := hide hki
                  go_upto_region 17 with fail
                  refine wp_region_L (by as_aux_lemma => kernel_rfl) ?_
                  refine wpE_seg 0 11 (fuel := 0) (by as_aux_lemma => kernel_rfl) (fun d _ _ _ _ h => by cases d <;> exact h) (by as_aux_lemma => kernel_rfl) (by as_aux_lemma => kernel_rfl) ?_
                  simp only [List.drop_zero, List.take_succ_cons, List.take_zero]
                  iterate 1 (refine wpQE_step (fun K hK => ?_); go_simp; refine hK _ ?_; clear hK K)
                  refine wpQE_val_skip (.bool false) 7 rfl (fun l => rfl) (by as_aux_lemma => kernel_rfl) ?_
                  dsimp only [putU, List.take_succ_cons, List.take_zero, List.drop_succ_cons, List.drop_zero, Act.put]
                  iterate 2 (refine wpQE_step (fun K hK => ?_); go_simp; refine hK _ ?_; clear hK K)
                  refine wpQE_nil ?_
                  refine wpE_done (by as_aux_lemma => kernel_rfl) (fun w8 hb8 => ?_) 0
                  clear l0 l1 l2 l3 lq
                  have hb68 := hbk.out.trans (hb8.mono hbk.out.size)
                  clear hb8
                  replace hb68 := hide hb68
                  go_wp2_with fail
                  refine ⟨⟨k + 1, by omega, by first | rfl | go_num, by rw [hfk1.out, hFBk.out]; rfl, hb68.out⟩, by simp only [intOf]; omega⟩
                by_cases e0 : d.p.v6 = e.p.v6
                · rw [e0] at l0
                  by_cases e1 : d.p.hi = e.p.hi
                  · rw [e1] at l1
                    by_cases e2 : d.p.lo = e.p.lo
                    · rw [e2] at l2
                      by_cases e3 : d.i = e.i
                      · rw [e3] at l3
                        have hde : decide (d.p = e.p ∧ d.i = e.i) = true := by
                          rw [decide_eq_true_eq]
                          refine ⟨?_, e3⟩
                          cases hdp : d.p
                          cases hep : e.p
                          rw [hdp, hep] at e0 e1 e2
                          dsimp only at e0 e1 e2
                          rw [e0, e1, e2]
                        replace e0 := hide e0
                        replace e1 := hide e1
                        replace e2 := hide e2
                        replace e3 := hide e3
                        replace hde := hide hde
                        replace hbk := hide hbk
                        replace hqk := hide hqk
                        replace hfk1 := hide hfk1
                        replace hFBk := hide hFBk
                        replace hdk := hide hdk
                        replace hki := hide hki
                        go_upto_region 17 with fail
                        refine wp_region_L (by as_aux_lemma => kernel_rfl) ?_
                        refine wpE_seg 0 11 (fuel := 0) (by as_aux_lemma => kernel_rfl) (fun d _ _ _ _ h => by cases d <;> exact h) (by as_aux_lemma => kernel_rfl) (by as_aux_lemma => kernel_rfl) ?_
                        simp only [List.drop_zero, List.take_succ_cons, List.take_zero]
                        iterate 11 (refine wpQE_step (fun K hK => ?_); go_simp; refine hK _ ?_; clear hK K)
                        refine wpQE_nil ?_
                        refine wpE_done (by as_aux_lemma => kernel_rfl) (fun w8 hb8 => ?_) 0
                        clear l0 l1 l2 l3 lq
                        have hb68 := hbk.out.trans (hb8.mono hbk.out.size)
                        clear hb8
                        replace hb68 := hide hb68
                        go_wp2_with fail
                        refine ⟨⟨k + 1, by omega, by first | rfl | go_num, by rw [hfk1.out, hFBk.out]; rw [hde.out]; rfl, hb68.out⟩, by simp only [intOf]; omega⟩
                      · have hde : decide (d.p = e.p ∧ d.i = e.i) = false := decide_eq_false (fun h => e3 h.2)
                        replace e0 := hide e0
                        replace e1 := hide e1
                        replace e2 := hide e2
                        replace hde := hide hde
                        replace hbk := hide hbk
                        replace hqk := hide hqk
                        replace hfk1 := hide hfk1
                        replace hFBk := hide hFBk
                        replace hdk := hide hdk
                        replace hki := hide hki
                        go_upto_region 17 with fail
                        refine wp_region_L (by as_aux_lemma => kernel_rfl) ?_
                        refine wpE_seg 0 11 (fuel := 0) (by as_aux_lemma => kernel_rfl) (fun d _ _ _ _ h => by cases d <;> exact h) (by as_aux_lemma => kernel_rfl) (by as_aux_lemma => kernel_rfl) ?_
                        simp only [List.drop_zero, List.take_succ_cons, List.take_zero]
                        iterate 11 (refine wpQE_step (fun K hK => ?_); go_simp; refine hK _ ?_; clear hK K)
                        refine wpQE_nil ?_
                        refine wpE_done (by as_aux_lemma => kernel_rfl) (fun w8 hb8 => ?_) 0
                        clear l0 l1 l2 l3 lq
                        have hb68 := hbk.out.trans (hb8.mono hbk.out.size)
                        clear hb8
                        replace hb68 := hide hb68
                        go_wp2_with fail
                        refine ⟨⟨k + 1, by omega, by first | rfl | go_num, by rw [hfk1.out, hFBk.out]; rw [hde.out]; rfl, hb68.out⟩, by simp only [intOf]; omega⟩
                    · have n2' : ¬ (d.p.lo : Int) = (e.p.lo : Int) := by omega
                      have hde : decide (d.p = e.p ∧ d.i = e.i) = false := decide_eq_false (fun h => e2 (by rw [h.1]))
                      replace e0 := hide e0
                      replace e1 := hide e1
                      replace e2 := hide e2
                      replace hde := hide hde
                      replace hbk := hide hbk
                      replace hqk := hide hqk
                      replace hfk1 := hide hfk1
                      replace hFBk := hide hFBk
                      replace hdk := hide hdk
                      replace hki := hide hki
                      go_upto_region 17 with fail
                      refine wp_region_L (by as_aux_lemma => kernel_rfl) ?_
                      refine wpE_seg 0 11 (fuel := 0) (by as_aux_lemma => kernel_rfl) (fun d _ _ _ _ h => by cases d <;> exact h) (by as_aux_lemma => kernel_rfl) (by as_aux_lemma => kernel_rfl) ?_
                      simp only [List.drop_zero, List.take_succ_cons, List.take_zero]
                      iterate 11 (refine wpQE_step (fun K hK => ?_); go_simp; refine hK _ ?_; clear hK K)
                      refine wpQE_nil ?_
                      refine wpE_done (by as_aux_lemma => kernel_rfl) (fun w8 hb8 => ?_) 0
                      clear l0 l1 l2 l3 lq
                      have hb68 := hbk.out.trans (hb8.mono hbk.out.size)
                      clear hb8
                      replace hb68 := hide hb68
                      go_wp2_with fail
                      refine ⟨⟨k + 1, by omega, by first | rfl | go_num, by rw [hfk1.out, hFBk.out]; rw [hde.out]; rfl, hb68.out⟩, by simp only [intOf]; omega⟩
                  · have n1' : ¬ (d.p.hi : Int) = (e.p.hi : Int) := by omega
                    have hde : decide (d.p = e.p ∧ d.i = e.i) = false := decide_eq_false (fun h => e1 (by rw [h.1]))
                    replace e0 := hide e0
                    replace e1 := hide e1
                    replace hde := hide hde
                    replace hbk := hide hbk
                    replace hqk := hide hqk
                    replace hfk1 := hide hfk1
                    replace hFBk := hide hFBk
                    replace hdk := hide hdk
                    replace hki := hide hki
                    go_upto_region 17 with fail
                    refine wp_region_L (by as_aux_lemma => kernel_rfl) ?_
                    refine wpE_seg 0 11 (fuel := 0) (by as_aux_lemma => kernel_rfl) (fun d _ _ _ _ h => by cases d <;> exact h) (by as_aux_lemma => kernel_rfl) (by as_aux_lemma => kernel_rfl) ?_
                    simp only [List.drop_zero, List.take_succ_cons, List.take_zero]
                    iterate 11 (refine wpQE_step (fun K hK => ?_); go_simp; refine hK _ ?_; clear hK K)
                    refine wpQE_nil ?_
                    refine wpE_done (by as_aux_lemma => kernel_rfl) (fun w8 hb8 => ?_) 0
                    clear l0 l1 l2 l3 lq
                    have hb68 := hbk.out.trans (hb8.mono hbk.out.size)
                    clear hb8
                    replace hb68 := hide hb68
                    go_wp2_with fail
                    refine ⟨⟨k + 1, by omega, by first | rfl | go_num, by rw [hfk1.out, hFBk.out]; rw [hde.out]; rfl, hb68.out⟩, by simp only [intOf]; omega⟩
                · have hde : decide (d.p = e.p ∧ d.i = e.i) = false := decide_eq_false (fun h => e0 (by rw [h.1]))
                  replace hde := hide hde
                  replace hbk := hide hbk
                  replace hqk := hide hqk
                  replace hfk1 := hide hfk1
                  replace hFBk := hide hFBk
                  replace hdk := hide hdk
                  replace hki := hide hki
                  go_upto_region 17 with fail
                  refine wp_region_L (by as_aux_lemma => kernel_rfl) ?_
                  refine wpE_seg 0 11 (fuel := 0) (by as_aux_lemma => kernel_rfl) (fun d _ _ _ _ h => by cases d <;> exact h) (by as_aux_lemma => kernel_rfl) (by as_aux_lemma => kernel_rfl) ?_
                  simp only [List.drop_zero, List.take_succ_cons, List.take_zero]
                  iterate 11 (refine wpQE_step (fun K hK => ?_); go_simp; refine hK _ ?_; clear hK K)
                  refine wpQE_nil ?_
                  refine wpE_done (by as_aux_lemma => kernel_rfl) (fun w8 hb8 => ?_) 0
                  clear l0 l1 l2 l3 lq
                  have hb68 := hbk.out.trans (hb8.mono hbk.out.size)
                  clear hb8
                  replace hb68 := hide hb68
                  go_wp2_with fail
                  refine ⟨⟨k + 1, by omega, by first | rfl | go_num, by rw [hfk1.out, hFBk.out]; rw [hde.out]; rfl, hb68.out⟩, by simp only [intOf]; omega⟩
              · obtain rfl : k = i := by omega
                have j1 : ((k : Int) < (k : Int)) = False := by simp
                have hFB' := hFB.out
                rw [hFB']
                cases FB
                · obtain rfl : n = n2 := hn2'.out
                  clear hn2
                  replace hbk := hide hbk
                  replace hki := hide hki
                  replace hFB' := hide hFB'
                  go_wp2_with fail
                  go_meet
                  exact ⟨rfl, rfl, hbk.out⟩
                · obtain rfl : n + 1 = n2 := hn2'.out
                  have wn : IntKind.i64.wrap ((n : Int) + 1) = ((n + 1 : Nat) : Int) := by rw [wraps62 _ (by omega) (by omega)]; omega
                  clear hn2
                  replace hbk := hide hbk
                  replace hki := hide hki
                  replace hFB' := hide hFB'
                  go_wp2_with fail
                  go_meet
                  exact ⟨by first | rfl | (congr 1), rfl, hbk.out⟩
        case rest =>
          obtain ⟨rfl, rfl, hbc⟩ := hcut
          have hzc := hbc.size
          have hqc := (hbc.block q (by omega)).trans hq6.out
          have hTc := hT6.out.below hbc
          have hbrc := hbr6.out.trans (hbc.mono (by omega))
          have hBc := hBr6.out.trans (hbc.mono hBr6.out.size)
          have hgc := (hbrc.block _ hzw).trans hg3.out
          have hxc := hx3.out.below hbrc
          obtain ⟨b', off', e', hbo, hb', hei', hcell⟩ := hxc.at hputC (by omega) hiL
          cases hbo
          obtain rfl : e = e' := Option.some.inj (hei.out.symm.trans hei')
          have d0 : wc.cell? ⟨b, off + i * 5, none⟩ = some (.bool e.p.v6) := hcell 0 _ rfl
          have d3 : wc.cell? ⟨b, off + i * 5 + 3, none⟩ = some (.int .i64 e.i) := hcell 3 _ rfl
          have d4 : wc.cell? ⟨b, off + i * 5 + 4, none⟩ = some (.int .i64 e.v) := hcell 4 _ rfl
          clear hcell hbc hq6 hT6 hbr6 hBr6 hx6 hei'
          replace hqc := hide hqc
          replace hTc := hide hTc
          replace hbrc := hide hbrc
          replace hBc := hide hBc
          replace hgc := hide hgc
          replace hxc := hide hxc
          go_upto_region 20 with fail
          go_cut [64] from 24 to 84 (fun bv wx => bv = .bool false ∧ AfterP g q (keysOf (es.take (i + 1))) (n2 : Int) (.cells #[.bool e.p.v6, .int .u64 (e.p.hi : Int), .int .u64 (e.p.lo : Int), .int .i64 e.i] 45 (0, 0)) wc wx)
          case first =>
            have hnb : ∀ p c, N p = some c → c.block ≠ b := fun p c h e => by have := hTc.out.ge p c h; omega
            refine wp_region_W [7] wc.heap.size (isNode N) (by as_aux_lemma => kernel_rfl) ?_
            intro wd hbd
            have hTz := hTc.out.below hbd
            have hqz := (hbd.block q (by omega)).trans hqc.out
            have hzz := hbd.size
            have hbz : Below g wc wd := hbd.mono (by omega)
            have lq := fun l : KeptSW wc.heap.size (isNode N) wd => blk_cell (l.blk hqz (by omega) (fun ⟨p, c, h1, h2⟩ => hNq.out p c h1 h2))
            have e4 := (World.cell?_of_block (hbd.block b (by omega))).trans d4
            have l4 := fun l : KeptSW wc.heap.size (isNode N) wd => (World.cell?_of_block (l.hk.block b (by omega) (fun ⟨p, c, h1, h2⟩ => hnb p c h1 h2))).trans e4
            clear d0 d3 d4 e4 hbd
            replace hTz := hide hTz
            replace hqz := hide hqz
            replace hbz := hide hbz
            replace hnb := hide hnb
            refine wpWS_seg [7] wc.heap.size (isNode N) 0 7 (fuel := 3) (by as_aux_lemma => kernel_rfl) (fun d _ _ _ _ h => by cases d <;> exact h) (by as_aux_lemma => kernel_rfl) (by as_aux_lemma => kernel_rfl) ?_
            simp only [List.drop_zero, List.take_succ_cons, List.take_zero]
            iterate 7 (refine wpQS_step (fun K hK => ?_); go_simp; refine hK _ ?_; clear hK K)
            refine wpQF_nil ?_
            refine wpWS_seg [7] wc.heap.size (isNode N) 8 1 (fuel := 2) (by as_aux_lemma => kernel_rfl) (fun d _ _ _ _ h => by cases d <;> exact h) (by as_aux_lemma => kernel_rfl) (by as_aux_lemma => kernel_rfl) ?_
            simp only [List.drop_succ_cons, List.drop_zero, List.take_succ_cons, List.take_zero]
            iterate 1 (refine wpQS_step (fun K hK => ?_); go_simp; refine hK _ ?_; clear hK K)
            refine wpQF_nil ?_
            clear lq l4
            cases RP
            · have hn2' := hn2.out
              have hwt' := hwt.out
              obtain rfl : n = n2 := hn2'
              obtain rfl : (1 : Int) = wt := hwt'
              have hk2 : keysOf (es.take (i + 1)) = keysOf (es.take i) := by
                rw [hk1.out]
                unfold stepM
                rw [if_neg (by rw [hRPr.out]; simp)]
              have hcall := hno.out rfl wd
              clear hn2 hwt
              replace hk2 := hide hk2
              replace hcall := hide hcall
              refine wpW_step 7 rfl (by as_aux_lemma => kernel_rfl) (fun K hK => ?_)
              go_simp
              go_at_call 35
              refine hcall.out.mono ?_
              rintro e' w9 ⟨rfl, hb9⟩
              refine hK _ _ (relS_of rfl (keptS_of_below hb9 hzz)) ?_
              clear hK K
              have hfin : AfterP g q (keysOf (es.take (i + 1))) (n : Int) (.cells #[.bool e.p.v6, .int .u64 (e.p.hi : Int), .int .u64 (e.p.lo : Int), .int .i64 e.i] 45 (0, 0)) wc w9 := by
                rw [hk2.out]
                exact ⟨N, hTz.out.below hb9, hbz.out.trans (hb9.mono (by omega)), (hb9.block q (by omega)).trans hqz.out⟩
              clear hb9
              replace hfin := hide hfin
              refine wpW_step 9 rfl (by as_aux_lemma => kernel_rfl) (fun K hK => ?_)
              go_simp
              refine hK _ _ (relS_refl _ _ _ _ _) ?_
              clear hK K
              refine wpW_done (by as_aux_lemma => kernel_rfl) ?_ _
              go_wp2_with fail
              go_meet
              exact ⟨rfl, hfin.out⟩
            · obtain ⟨k, hik, hk128⟩ := hpos.out rfl
              have hre : e.right = true := hRPr.out
              have hkey : e.key = pkey e.p k := by unfold PutE.key; rw [hik, Int.toNat_natCast]
              have hk2 : keysOf (es.take (i + 1)) = upd (keysOf (es.take i)) (pkey e.p k) e.v := by
                rw [hk1.out]
                unfold stepM
                rw [if_pos hre, hkey]
              have hfr2 := hfr.out rfl
              rw [hFB.out, hkey] at hfr2
              have hn3 : (if (keysOf (es.take i) (pkey e.p k)).isSome = true then (n : Int) else (n : Int) + 1) = (n2 : Int) := by
                have hn2' := hn2.out
                rw [← hn2', hfr2]
                cases (keysOf (es.take i) (pkey e.p k)).isSome
                · simp
                · simp
              have hwt' := hwt.out
              obtain rfl : (0 : Int) = wt := hwt'
              have hrk : rightP e.p (k : Int) = true := by rw [← hik]; exact hRPe.out
              have hcall := hyes.out k hrk wd N (keysOf (es.take i)) (n : Int) (by omega) (by omega) hTz.out
              rw [← hik] at hcall
              clear hn2 hwt hfr2 hkey hrk
              replace hk2 := hide hk2
              replace hcall := hide hcall
              replace hn3 := hide hn3
              replace hik := hide hik
              replace hre := hide hre
              refine wpW_step 7 rfl (by as_aux_lemma => kernel_rfl) (fun K hK => ?_)
              go_simp
              go_at_call 35
              refine hcall.out.mono ?_
              rintro e' w9 ⟨rfl, N', hT9, hk9⟩
              refine hK _ _ (relS_of rfl ⟨hk9.os, hk9.tape, hk9.output, hk9.size, fun j hj hne => hk9.block j (by omega) hne⟩) ?_
              clear hK K
              have hfin : AfterP g q (keysOf (es.take (i + 1))) (n2 : Int) (.cells #[.bool e.p.v6, .int .u64 (e.p.hi : Int), .int .u64 (e.p.lo : Int), .int .i64 e.i] 45 (0, 0)) wc w9 := by
                rw [hk2.out]
                rw [hn3.out] at hT9
                exact ⟨N', hT9, hbz.out.trans (hTz.out.frame hk9), (hk9.block q (by omega) (fun ⟨p, c, h1, h2⟩ => hNq.out p c h1 h2)).trans hqz.out⟩
              clear hT9 hk9
              replace hfin := hide hfin
              refine wpW_step 9 rfl (by as_aux_lemma => kernel_rfl) (fun K hK => ?_)
              go_simp
              refine hK _ _ (relS_refl _ _ _ _ _) ?_
              clear hK K
              refine wpW_done (by as_aux_lemma => kernel_rfl) ?_ _
              go_wp2_with fail
              go_meet
              exact ⟨rfl, hfin.out⟩
          case rest =>
            obtain ⟨rfl, N', hT9, hb9, hq9⟩ := hcut
            have hz9 := hb9.size
            have hbr9 := hbrc.out.trans hb9
            have hB9 := hBc.out.trans (hb9.mono (by omega))
            have hg9 := (hbr9.block _ hzw).trans hg3.out
            have f4 := (World.cell?_of_block (hb9.block b hb')).trans d4
            have hnle : n2 ≤ i + 1 := by rw [← hn2.out]; split <;> omega
            have hqlt : q < wc.heap.size := by omega
            have hblt : b < wc.heap.size := by omega
            have hr2 := hr1.out
            clear d0 d3 d4 hqc hTc hbrc hBc hgc hxc hb9 hr1 hno hyes hfr hpos hk1
            have hcg := blk_cell hg9
            obtain ⟨r0, hr0⟩ : ∃ r, rrOf RB a (es.take i) = r := ⟨_, rfl⟩
            rw [hr0] at hr2 ⊢
            obtain ⟨LL, hLL⟩ : ∃ x, lawL r0 = x := ⟨_, rfl⟩
            rw [hLL] at hr2 ⊢
            replace hT9 := hide hT9
            replace hbr9 := hide hbr9
            replace hB9 := hide hB9
            replace hg9 := hide hg9
            replace hq9 := hide hq9
            replace hr2 := hide hr2
            replace hr0 := hide hr0
            replace hLL := hide hLL
            go_wp2_with fail
            refine (hRa.out wc).mono ?_
            rintro e' w10 ⟨rfl, hb10⟩
            have hT10 := hT9.out.below hb10
            have hz10 := hb10.size
            have hbr10 := hbr9.out.trans (hb10.mono (by omega))
            have hB10 := hB9.out.trans (hb10.mono hB9.out.size)
            have hg10 := (hb10.block _ (by omega)).trans hg9.out
            have hq10 := (hb10.block q hqlt).trans hq9.out
            have f410 := (World.cell?_of_block (hb10.block b hblt)).trans f4
            clear hcg hT9 hbr9 hB9 hg9 hq9 f4 hb10
            cases RB
            · have hr3 : rrOf false a (es.take (i + 1)) = r0 := by rw [hr2.out, if_neg (by simp)]
              clear hr2
              replace hr3 := hide hr3
              replace hT10 := hide hT10
              replace hbr10 := hide hbr10
              replace hB10 := hide hB10
              replace hg10 := hide hg10
              replace hq10 := hide hq10
              go_wp2_with fail
              exact ⟨⟨i + 1, _, n2, by omega, by first | rfl | go_num, by first | rfl | trivial, by rw [hr3.out], by rw [hr3.out]; exact congrArg _ hLL.out.symm, hnle, hT10.out, hbr10.out⟩, by simp only [intOf]; omega⟩
            · have har := hri.out.1 rfl
              have hHe2 := hHe.out har wc
              have hcall := hHe.out har w10
              have hcg := blk_cell hg10
              have hcq := blk_cell hq10
              clear hHe2 hHe
              replace hT10 := hide hT10
              replace hbr10 := hide hbr10
              replace hB10 := hide hB10
              replace hg10 := hide hg10
              replace hq10 := hide hq10
              replace hcall := hide hcall
              go_wp2_with fail
              refine hcall.out.mono ?_
              rintro e' w11 ⟨rfl, hb11⟩
              have hT11 := hT10.out.below hb11
              have hz11 := hb11.size
              have hbr11 := hbr10.out.trans (hb11.mono (by omega))
              have hq11 := (hb11.block q (by omega)).trans hq10.out
              have f411 := (World.cell?_of_block (hb11.block b (by omega))).trans f410
              clear hcg hcq hT10 hbr10 hB10 hg10 hq10 f410 hb11
              cases HP
              · have hr3 : rrOf true a (es.take (i + 1)) = r0 := by rw [hr2.out, if_neg (by simp)]
                clear hr2
                replace hr3 := hide hr3
                replace hT11 := hide hT11
                replace hbr11 := hide hbr11
                replace hq11 := hide hq11
                go_wp2_with fail
                exact ⟨⟨i + 1, _, n2, by omega, by first | rfl | go_num, by first | rfl | trivial, by rw [hr3.out], by rw [hr3.out]; exact congrArg _ hLL.out.symm, hnle, hT11.out, hbr11.out⟩, by simp only [intOf]; omega⟩
              · have hcq := blk_cell hq11
                by_cases hll : LL ≤ e.i
                · have t1 : decide (LL ≤ e.i) = true := decide_eq_true hll
                  have hr3 : rrOf true a (es.take (i + 1)) = some (e.v, e.i.toNat) := by rw [hr2.out, if_pos ⟨by first | rfl | trivial, by first | rfl | trivial, hll⟩]
                  have hp1 := hp0.out rfl
                  clear hr2
                  replace hr3 := hide hr3
                  replace hT11 := hide hT11
                  replace hbr11 := hide hbr11
                  replace hq11 := hide hq11
                  replace hp1 := hide hp1
                  go_wp2_with fail
                  exact ⟨⟨i + 1, _, n2, by omega, by first | rfl | go_num, by first | rfl | trivial, by rw [hr3.out]; rfl, by rw [hr3.out]; exact congrArg _ hp1.out.symm, hnle, hT11.out, hbr11.out⟩, by simp only [intOf]; omega⟩
                · have t1 : decide (LL ≤ e.i) = false := decide_eq_false hll
                  have hr3 : rrOf true a (es.take (i + 1)) = r0 := by rw [hr2.out, if_neg (fun h => hll h.2.2)]
                  clear hr2
                  replace hr3 := hide hr3
                  replace hT11 := hide hT11
                  replace hbr11 := hide hbr11
                  replace hq11 := hide hq11
                  go_wp2_with fail
                  exact ⟨⟨i + 1, _, n2, by omega, by first | rfl | go_num, by first | rfl | trivial, by rw [hr3.out], by rw [hr3.out]; exact congrArg _ hLL.out.symm, hnle, hT11.out, hbr11.out⟩, by simp only [intOf]; omega⟩
      · obtain rfl : i = L := by omega
        have i1 : ((i : Int) < (i : Int)) = False := by simp
        have htk : es.take i = es := List.take_of_length_le (by omega)
        rw [htk] at hT ⊢
        have hcg := blk_cell hgr.out
        clear hsn hkn hfk hfs hH hxr hbr hx3
        replace hT := hide hT
        replace hiL := hide hiL
        replace htk := hide htk
        obtain ⟨r0, hr0⟩ : ∃ r, rrOf RB a es = r := ⟨_, rfl⟩
        rw [hr0]
        cases RB
        · obtain rfl : r0 = none := hr0.symm
          have hF := hfn.out rfl wr
          clear hfn hfy hfp
          replace hF := hide hF
          go_wp2_with fail
          refine hF.out.mono ?_
          rintro e' w5 ⟨rfl, hb5⟩
          have hL5 := len_any (hT.out.below hb5)
          have hB5 := hBr.out.trans (hb5.mono hBr.out.size)
          clear hcg hF
          replace hb5 := hide hb5
          replace hL5 := hide hL5
          replace hB5 := hide hB5
          go_wp2_with fail
          refine hL5.out.mono ?_
          rintro e' w6 ⟨rfl, rfl⟩
          go_wp2_with fail
          refine (hA.out w6 (hm.out.below hB5.out)).mono ?_
          rintro e' w7 ⟨rfl, hb7⟩
          have hB7 := hB5.out.trans (hb7.mono hB5.out.size)
          clear hb7
          replace hB7 := hide hB7
          go_wp2_with fail
          go_ret
          exact ⟨rfl, hB7.out⟩
        · have hF := hfy.out rfl wr N (keysOf es) (n : Int) hT.out
          have hr1 : pickOf a es = r0 := hr0
          rw [hfp.out (hri.out.1 rfl), hr1] at hF
          clear hfn hfy hfp hr0 hr1
          cases r0 with
          | none =>
            have hF' : Calls Tryd.prog 36 #[.pointer (some ⟨g, 0, none⟩), .agg #[.bool a.v6, .int .u64 (a.hi : Int), .int .u64 (a.lo : Int)]] wr fun e w' => e = .returned (.tuple #[.int .i64 0, .int .i64 0, .bool false]) ∧ Below wr.heap.size wr w' := hF
            clear hF
            replace hF' := hide hF'
            go_wp2_with fail
            refine hF'.out.mono ?_
            rintro e' w5 ⟨rfl, hb5⟩
            have hL5 := len_any (hT.out.below hb5)
            have hB5 := hBr.out.trans (hb5.mono hBr.out.size)
            clear hcg hF'
            replace hb5 := hide hb5
            replace hL5 := hide hL5
            replace hB5 := hide hB5
            go_wp2_with fail
            refine hL5.out.mono ?_
            rintro e' w6 ⟨rfl, rfl⟩
            go_wp2_with fail
            refine (hA.out w6 (hm.out.below hB5.out)).mono ?_
            rintro e' w7 ⟨rfl, hb7⟩
            have hB7 := hB5.out.trans (hb7.mono hB5.out.size)
            clear hb7
            replace hB7 := hide hB7
            go_wp2_with fail
            go_ret
            exact ⟨rfl, hB7.out⟩
          | some x =>
            obtain ⟨v, k⟩ := x
            have hF' : Calls Tryd.prog 36 #[.pointer (some ⟨g, 0, none⟩), .agg #[.bool a.v6, .int .u64 (a.hi : Int), .int .u64 (a.lo : Int)]] wr fun e w' => e = .returned (.tuple #[.int .i64 v, .int .i64 (k : Int), .bool true]) ∧ Below wr.heap.size wr w' := hF
            have e1 : fV (some (v, k)) = v := rfl
            have e2 : lawL (some (v, k)) = (k : Int) := rfl
            rw [e1, e2]
            have t0 : decide ((k : Int) < 0) = false := by rw [decide_eq_false_iff_not]; omega
            have t1 : ¬ (k : Int) < 0 := by omega
            clear hF e1 e2
            replace hF' := hide hF'
            go_wp2_with fail
            refine hF'.out.mono ?_
            rintro e' w5 ⟨rfl, hb5⟩
            have hL5 := len_any (hT.out.below hb5)
            have hB5 := hBr.out.trans (hb5.mono hBr.out.size)
            clear hcg hF'
            replace hb5 := hide hb5
            replace hL5 := hide hL5
            replace hB5 := hide hB5
            go_wp2_with fail
            refine hL5.out.mono ?_
            rintro e' w6 ⟨rfl, rfl⟩
            go_wp2_with fail
            refine (hA.out w6 (hm.out.below hB5.out)).mono ?_
            rintro e' w7 ⟨rfl, hb7⟩
            have hB7 := hB5.out.trans (hb7.mono hB5.out.size)
            clear hb7
            replace hB7 := hide hB7
            go_wp2_with fail
            go_ret
            exact ⟨rfl, hB7.out⟩
theorem pfinds_row (A : Option Addr) (n c : Nat) (es : List PutE) (v : Bool) (h l : Int) (w : World) (hx : IsT putC 5 w w.heap.size A n es ∧ ∀ x ∈ es, PutE.ok x) (hnc : n ≤ c) (hcm : c ≤ maxLen) (h1 : (Lit.int .u64 h).wf = true) (h2 : (Lit.int .u64 l).wf = true) (hm : MaxAt w) :
    Calls Tryd.prog 9 #[.slice A n c, .agg #[.bool v, .int .u64 h, .int .u64 l]] w fun e w' => e = .returned (.bool true) ∧ Below w.heap.size w w' := by
  obtain ⟨h, rfl, h1'⟩ := u64_nat h1
  obtain ⟨l, rfl, h2'⟩ := u64_nat h2
  exact pfinds_walk A n c es ⟨v, h, l⟩ ⟨h1', h2'⟩ w hx.1 hx.2 hnc hcm hm
end Addr05
end Go.Proofs.YtccmbnaakdffaaaDoor
