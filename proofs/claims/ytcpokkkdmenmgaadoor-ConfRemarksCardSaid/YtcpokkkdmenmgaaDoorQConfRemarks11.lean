/- conf, plain: what both readers make of a line's words. -/
import Derived.Test.YtcpokkkdmenmgaaDoorQConfRemarks9
import Derived.Test.YtcpokkkdmenmgaaDoorQConfRemarks10
namespace Go.Proofs.YtcpokkkdmenmgaaDoor
open Go.RowKit Go.ChangeShapes Go.WideShapes Go.ChangeAt Go.Deep
namespace Conf18
open Addr05 (Adr parseF pfxF)
structure Nd where
  name : List UInt8
  kind : Int
  above : Int
  weight : Int
  a : Adr
structure Vp where
  a : Adr
  proto : Int
  port : Int
  copies : Int
  nat : Bool
structure Vw where
  a : Adr
  bits : Int
  level : Int
structure Cfg where
  nodes : List Nd
  vips : List Vp
  views : List Vw
  factor : Int
  domain : Int
  s0 : Adr
  s1 : Adr
  fs : Bool
  ds : Bool
abbrev zA : Adr := ⟨false, 0, 0⟩
def startC : Cfg := ⟨[], [], [], 140, 2, zA, zA, false, false⟩
def wLevel : List UInt8 := [108, 101, 118, 101, 108]
def wZone : List UInt8 := [122, 111, 110, 101]
def wRack : List UInt8 := [114, 97, 99, 107]
def wHost : List UInt8 := [104, 111, 115, 116]
def wFactor : List UInt8 := [102, 97, 99, 116, 111, 114]
def wDomain : List UInt8 := [100, 111, 109, 97, 105, 110]
def wSelf : List UInt8 := [115, 101, 108, 102]
def wVip : List UInt8 := [118, 105, 112]
def wView : List UInt8 := [118, 105, 101, 119]
def wTcp : List UInt8 := [116, 99, 112]
def wUdp : List UInt8 := [117, 100, 112]
def wCopies : List UInt8 := [99, 111, 112, 105, 101, 115]
def wNat : List UInt8 := [110, 97, 116]
def kindF (w : List UInt8) : Nat := if w = wLevel then 1 else if w = wZone then 2 else if w = wRack then 3 else if w = wHost then 4 else 0
def protoF (w : List UInt8) : Nat := if w = wTcp then 6 else if w = wUdp then 17 else 0
def atN (ns : List Nd) (s : List UInt8) : Option Nat := ns.findIdx? fun n => decide (n.name = s)
def wd (ws : List (List UInt8)) (i : Nat) : List UInt8 := ws.getD i []
abbrev Adr.isZ (a : Adr) : Bool := decide (a.v6 = false ∧ a.hi = 0 ∧ a.lo = 0)
def factorF (c : Cfg) (ws : List (List UInt8)) : Except Nat Cfg :=
  if ws.length ≠ 2 then .error 4 else match lexF (wd ws 1) 1000 with
    | none => .error 5
    | some n => if n < 100 then .error 5 else if c.fs = true then .error 8 else .ok { c with factor := (n : Int), fs := true }
def domainF (c : Cfg) (ws : List (List UInt8)) : Except Nat Cfg :=
  if ws.length ≠ 2 ∨ (wd ws 1 ≠ wZone ∧ wd ws 1 ≠ wRack) then .error 4 else if c.ds = true then .error 8 else .ok { c with domain := (kindF (wd ws 1) : Int), ds := true }
def selfF (c : Cfg) (ws : List (List UInt8)) : Except Nat Cfg :=
  if ws.length ≠ 2 then .error 4 else match parseF (wd ws 1) with
    | none => .error 18
    | some a => if Adr.isZ (if a.v6 = true then c.s1 else c.s0) = false then .error 8 else if Adr.isZ a = true then .error 18 else .ok (if a.v6 = true then { c with s1 := a } else { c with s0 := a })
def viewF (c : Cfg) (ws : List (List UInt8)) : Except Nat Cfg :=
  if ws.length ≠ 3 then .error 4 else match pfxF (wd ws 1) with
    | none => .error 18
    | some p => match lexF (wd ws 2) 3 with
      | none => .error 5
      | some n => .ok { c with views := c.views ++ [⟨p.1, (p.2 : Int), (n : Int)⟩] }
def mostF (k : Nat) : Nat := if k = 1 then 2 else if k = 2 ∨ k = 3 then 4 else 5
def leastF (k : Nat) : Nat := if k = 1 then 2 else if k = 2 ∨ k = 3 then 3 else 5
/-- What stands above, by a line's words. -/
def aboveF (c : Cfg) (ws : List (List UInt8)) : Option Int := if ws.length ≤ 2 then some (-1) else (atN c.nodes (wd ws 2)).map fun k => (k : Int)
def weightF (k : Nat) (ws : List (List UInt8)) : Option Nat := if ws.length ≤ 3 then some 0 else match lexF (wd ws 3) 65535 with
  | none => none
  | some v => if v = 0 ∧ k ≠ 4 then none else some v
def nadrF (ws : List (List UInt8)) : Option Adr := if ws.length ≤ 4 then some zA else parseF (wd ws 4)
def nodeF (k : Nat) (c : Cfg) (ws : List (List UInt8)) : Except Nat Cfg :=
  if ws.length < leastF k ∨ mostF k < ws.length then .error 4 else match aboveF c ws with
    | none => .error 7
    | some u => match weightF k ws with
      | none => .error 17
      | some v => match nadrF ws with
        | none => .error 18
        | some a => if (atN c.nodes (wd ws 1)).isSome = true then .error 8 else .ok { c with nodes := c.nodes ++ [⟨wd ws 1, (k : Int), u, (v : Int), a⟩] }
def copF (ws : List (List UInt8)) : Option (Nat × List (List UInt8)) :=
  if 1 < ws.length ∧ wd ws 0 = wCopies then (match lexF (wd ws 1) 8 with
    | none => none
    | some n => if n < 2 then none else some (n, ws.drop 2)) else some (1, ws)
def natF (ws : List (List UInt8)) : Bool × List (List UInt8) := if 0 < ws.length ∧ wd ws 0 = wNat then (true, ws.drop 1) else (false, ws)
def vipF (c : Cfg) (ws : List (List UInt8)) : Except Nat Cfg :=
  if ws.length < 4 then .error 4 else match parseF (wd ws 1) with
    | none => .error 18
    | some a => match lexF (wd ws 3) 65535 with
      | none => .error 4
      | some p => if protoF (wd ws 2) = 0 then .error 4 else match copF (ws.drop 4) with
        | none => .error 5
        | some (n, r) => if 0 < (natF r).2.length then .error 4 else .ok { c with vips := c.vips ++ [⟨a, (protoF (wd ws 2) : Int), (p : Int), (n : Int), (natF r).1⟩] }
def lineF (c : Cfg) (ws : List (List UInt8)) : Except Nat Cfg :=
  if wd ws 0 = wFactor then factorF c ws else if wd ws 0 = wDomain then domainF c ws else if wd ws 0 = wSelf then selfF c ws
  else if wd ws 0 = wVip then vipF c ws else if wd ws 0 = wView then viewF c ws else if kindF (wd ws 0) ≠ 0 then nodeF (kindF (wd ws 0)) c ws else .error 15
def linesF (c : Cfg) : List (Nat × List (List UInt8)) → Except (Nat × Nat) Cfg
  | [] => .ok c
  | x :: l => match lineF c x.2 with
    | .error n => .error (x.1, n)
    | .ok c' => linesF c' l
def Cfg.small (c : Cfg) (k : Nat) : Prop := c.nodes.length ≤ k ∧ c.vips.length ≤ k ∧ c.views.length ≤ k
theorem wd_get {ws : List (List UInt8)} {i : Nat} {x : List UInt8} (h : ws[i]? = some x) : wd ws i = x := by unfold wd; rw [List.getD_eq_getElem?_getD, h]; rfl
theorem kindF_le (w : List UInt8) : kindF w ≤ 4 := by unfold kindF; split <;> (try split) <;> (try split) <;> (try split) <;> omega
theorem lineF_small {c c' : Cfg} {ws : List (List UInt8)} {k : Nat} (h : c.small k) (he : lineF c ws = .ok c') : c'.small (k + 1) := by
  obtain ⟨h1, h2, h3⟩ := h
  have hs : c.small (k + 1) := ⟨by omega, by omega, by omega⟩
  unfold lineF at he
  split at he
  · unfold factorF at he
    repeat' split at he
    all_goals cases he
    exact hs
  split at he
  · unfold domainF at he
    repeat' split at he
    all_goals cases he
    exact hs
  split at he
  · unfold selfF at he
    repeat' split at he
    all_goals cases he
    all_goals exact hs
  split at he
  · unfold vipF at he
    repeat' split at he
    all_goals cases he
    exact ⟨by simp only; omega, by simp only [List.length_append, List.length_singleton]; omega, by simp only; omega⟩
  split at he
  · unfold viewF at he
    repeat' split at he
    all_goals cases he
    exact ⟨by simp only; omega, by simp only; omega, by simp only [List.length_append, List.length_singleton]; omega⟩
  split at he
  · unfold nodeF at he
    repeat' split at he
    all_goals cases he
    exact ⟨by simp only [List.length_append, List.length_singleton]; omega, by simp only; omega, by simp only; omega⟩
  · cases he
end Conf18
end Go.Proofs.YtcpokkkdmenmgaaDoor
/- conf, plain: what a text is as a configuration, or which line is wrong. No condition. -/
namespace Go.Proofs.YtcpokkkdmenmgaaDoor
open Go.RowKit Go.ChangeShapes Go.WideShapes Go.ChangeAt Go.Deep
namespace Conf18
open Addr05 (splitL split_part cut_len)
theorem wAt_words (s : List UInt8) : ∀ i, ∀ y ∈ (wAt s i).1, y.length ≤ s.length
  | 0, y, h => by cases h
  | i + 1, y, h => by
    have ih := wAt_words s i
    rw [wAt] at h
    unfold wStep at h
    split at h
    · split at h
      · rcases List.mem_append.1 h with h1 | h1
        · exact ih y h1
        · rw [List.mem_singleton] at h1
          subst h1
          rw [List.length_drop, List.length_take]
          omega
      · exact ih y h
    · split at h <;> exact ih y h
theorem lnA_words (ps : List (List UInt8)) (M : Nat) (h : ∀ x ∈ ps, x.length ≤ M) : ∀ i, ∀ p ∈ lnA ps i, p.2 ≠ [] ∧ ∀ y ∈ p.2, y.length ≤ M
  | 0, p, hp => by cases hp
  | i + 1, p, hp => by
    have ih := lnA_words ps M h i
    unfold lnA at hp
    split at hp
    · exact ih p hp
    · rename_i x hx
      split at hp
      · exact ih p hp
      · rename_i hne
        rcases List.mem_append.1 hp with h1 | h1
        · exact ih p h1
        · rw [List.mem_singleton] at h1
          subst h1
          refine ⟨hne, fun y hy => ?_⟩
          have h2 := wAt_words _ _ y hy
          have h3 := (cut_len x [35]).1
          have h4 := h x (List.mem_of_getElem? hx)
          omega
theorem linesF_app (c : Cfg) (a b : List (Nat × List (List UInt8))) : linesF c (a ++ b) = match linesF c a with | .error e => .error e | .ok c' => linesF c' b := by
  induction a generalizing c with
  | nil => rfl
  | cons x a ih =>
    rw [List.cons_append, linesF, linesF]
    split
    · rfl
    · exact ih _
theorem linesF_next {c0 c c1 : Cfg} {L : List (Nat × List (List UInt8))} {i : Nat} {x : Nat × List (List UInt8)} (h1 : L[i]? = some x) (h2 : linesF c0 (L.take i) = .ok c) (h3 : lineF c x.2 = .ok c1) : linesF c0 (L.take (i + 1)) = .ok c1 := by
  rw [List.take_add_one, h1, linesF_app, h2]
  simp only [Option.toList, linesF, h3]
theorem linesF_err {c0 c : Cfg} {L : List (Nat × List (List UInt8))} {i : Nat} {x : Nat × List (List UInt8)} {m : Nat} (h1 : L[i]? = some x) (h2 : linesF c0 (L.take i) = .ok c) (h3 : lineF c x.2 = .error m) : linesF c0 L = .error (x.1, m) := by
  have h4 : linesF c0 (L.take (i + 1)) = .error (x.1, m) := by
    rw [List.take_add_one, h1, linesF_app, h2]
    simp only [Option.toList, linesF, h3]
  have := linesF_app c0 (L.take (i + 1)) (L.drop (i + 1))
  rw [List.take_append_drop, h4] at this
  exact this
/-- The first part that is wrong, from a place on. -/
def lexE : Nat → List (List UInt8) → Option (Nat × Int)
  | _, [] => none
  | i, x :: r => if lnBad i x ≠ 0 then some (i + 1, lnBad i x) else lexE (i + 1) r
theorem lexE_some (ps : List (List UInt8)) (k : Nat) (i : Nat) (x : List UInt8) (h1 : ps[i]? = some x) (h2 : lnBad (k + i) x ≠ 0) (h3 : ∀ (j : Nat) (y : List UInt8), j < i → ps[j]? = some y → lnBad (k + j) y = 0) : lexE k ps = some (k + i + 1, lnBad (k + i) x) := by
  induction ps generalizing k i with
  | nil => simp at h1
  | cons y ps ih =>
    unfold lexE
    cases i with
    | zero =>
      simp at h1
      subst h1
      simp only [Nat.add_zero] at h2 ⊢
      rw [if_pos h2]
    | succ i =>
      have h4 := h3 0 y (by omega) rfl
      rw [Nat.add_zero] at h4
      rw [if_neg (fun h => h h4)]
      have := ih (k + 1) i (by simpa using h1) (by rw [Nat.add_assoc, Nat.add_comm 1 i]; exact h2) (fun j z hj hz => by
        have := h3 (j + 1) z (by omega) (by simpa using hz)
        rw [Nat.add_assoc, Nat.add_comm 1 j]; exact this)
      rw [this]
      rw [show k + 1 + i = k + (i + 1) by omega]
theorem lexE_none (ps : List (List UInt8)) (k : Nat) (h3 : ∀ (j : Nat) (y : List UInt8), ps[j]? = some y → lnBad (k + j) y = 0) : lexE k ps = none := by
  induction ps generalizing k with
  | nil => rfl
  | cons y ps ih =>
    unfold lexE
    have h4 := h3 0 y rfl
    rw [Nat.add_zero] at h4
    rw [if_neg (fun h => h h4)]
    exact ih (k + 1) (fun j z hz => by
      have := h3 (j + 1) z (by simpa using hz)
      rw [Nat.add_assoc, Nat.add_comm 1 j]; exact this)
/-- What a text is as a configuration, or the line that is wrong, and why. -/
def confF (s : List UInt8) : Except (Nat × Int) Cfg := match lexE 0 (splitL 10 s) with
  | some p => .error p
  | none => match linesF startC (lnA (splitL 10 s) (splitL 10 s).length) with
    | .error p => .error (p.1, (p.2 : Int))
    | .ok c => .ok c
end Conf18
end Go.Proofs.YtcpokkkdmenmgaaDoor
/- conf, plain: words between blanks and tabs, one by one; numbers' digits are read again. No condition. -/
namespace Go.Proofs.YtcpokkkdmenmgaaDoor
open Go.RowKit Go.ChangeShapes Go.WideShapes Go.ChangeAt Go.Deep
namespace Conf18
open Addr05
theorem tailF_app : ∀ (a b : List UInt8) (m : Nat), tailF m (a ++ b) = (tailF m a).bind fun k => tailF k b
  | [], b, m => rfl
  | c :: a, b, m => by
    rw [List.cons_append, tailF, tailF]
    split
    · exact tailF_app a b _
    · rfl
theorem tail_digF : ∀ (k n : Nat), n < 10 ^ k → 0 < k → tailF 0 (digF 10 k n) = some n
  | 0, n, _, h0 => absurd h0 (by omega)
  | k + 1, n, h, _ => by
    by_cases h10 : n < 10
    · rw [digF_lt h10, tailF_cons _ _ _ h10, tailF]
      simp
    · rw [Nat.pow_succ] at h
      have k0 : 0 < k := by
        rcases k with _ | k
        · simp at h; omega
        · omega
      rw [digF_ge h10, tailF_app, tail_digF k (n / 10) (by omega) k0]
      show tailF (n / 10) [hexC (n % 10)] = some n
      rw [tailF_cons _ _ _ (by omega), tailF]
      congr 1
      omega
theorem digF_len2 : ∀ (k j n : Nat), n < 10 ^ (j + 1) → (digF 10 k n).length ≤ j + 1
  | 0, j, n, _ => Nat.zero_le _
  | k + 1, j, n, h => by
    by_cases h10 : n < 10
    · rw [digF_lt h10, List.length_singleton]
      omega
    · rw [digF_ge h10, List.length_append, List.length_singleton]
      rcases j with _ | j
      · simp at h
        omega
      · rw [Nat.pow_succ] at h
        have := digF_len2 k j (n / 10) (by omega)
        omega
theorem digF_head : ∀ (k n : Nat), n < 10 ^ k → 1 ≤ n → digF 10 k n ≠ [] ∧ (digF 10 k n).head? ≠ some 48
  | 0, n, h, h1 => by simp at h; omega
  | k + 1, n, h, h1 => by
    by_cases h10 : n < 10
    · rw [digF_lt h10]
      refine ⟨by simp, fun e => ?_⟩
      rw [List.head?_cons] at e
      have := (hexC_ne n (by omega)).2.2 (Option.some.inj e)
      omega
    · rw [Nat.pow_succ] at h
      obtain ⟨h2, h3⟩ := digF_head k (n / 10) (by omega) (by omega)
      rw [digF_ge h10]
      refine ⟨by simp, ?_⟩
      obtain ⟨x, l, e⟩ := List.exists_cons_of_ne_nil h2
      rw [e] at h3 ⊢
      exact h3
theorem lex_dig (n : Nat) (h : n < 100000) (m : Int) (hm : (n : Int) ≤ m) : lexF (digL 10 n) m = some n := by
  have hp : n < 10 ^ 20 := Nat.lt_trans h (by decide)
  have h1 : digF 10 20 n ≠ [] := digL_ne 10 n
  have h2 := digF_len2 20 4 n (Nat.lt_of_lt_of_le h (by decide))
  have h3 := tail_digF 20 n hp (by omega)
  have h4 : ¬ ((digF 10 20 n).head? = some 48 ∧ 1 < (digF 10 20 n).length) := by
    rintro ⟨h5, h6⟩
    by_cases hn : n < 10
    · rw [digF_lt hn, List.length_singleton] at h6
      omega
    · exact (digF_head 20 n hp (by omega)).2 h5
  unfold lexF digL
  rw [if_neg (by rintro (h | h | h); exact h1 h; omega; exact h4 h), h3]
  dsimp only
  rw [if_neg (by omega)]
def isBl (c : UInt8) : Bool := decide (c.toNat = 32 ∨ c.toNat = 9)
/-- A byte's step: what is out, and the word that is under way. -/
def stC (st : List (List UInt8) × Option (List UInt8)) (c : UInt8) : List (List UInt8) × Option (List UInt8) :=
  if isBl c = true then (match st.2 with | some x => (st.1 ++ [x], none) | none => st) else (match st.2 with | none => (st.1, some [c]) | some x => (st.1, some (x ++ [c])))
theorem wAt_fold (s : List UInt8) : ∀ i, i ≤ s.length → (s.take i).foldl stC ([], none) = ((wAt s i).1, (wAt s i).2.map fun f => (s.take i).drop f)
  | 0, _ => rfl
  | i + 1, h => by
    have ih := wAt_fold s i (by omega)
    have hg : s[i]? = some s[i] := List.getElem?_eq_getElem (by omega)
    have e : s.take (i + 1) = s.take i ++ [s[i]] := by rw [List.take_add_one, hg]; rfl
    have hb : blankAt s i = isBl s[i] := by unfold blankAt; rw [hg]; rfl
    have hlt := wAt_lt s i
    have hlen : (s.take i).length = i := by rw [List.length_take]; omega
    rw [e, List.foldl_append, ih, wAt, List.foldl_cons, List.foldl_nil]
    unfold stC wStep
    rw [hb]
    rcases hf : (wAt s i).2 with _ | f
    · by_cases hB : isBl s[i] = true
      · rw [if_pos hB, if_pos hB]
        simp only [Option.map_none, hf]
      · rw [if_neg hB, if_neg hB]
        simp only [Option.map_none, Option.map_some]
        rw [List.drop_append_of_le_length (by omega), List.drop_of_length_le (by omega), List.nil_append]
    · have := hlt f hf
      by_cases hB : isBl s[i] = true
      · rw [if_pos hB, if_pos hB]
        simp only [Option.map_some, Option.map_none]
      · rw [if_neg hB, if_neg hB]
        simp only [Option.map_some, hf]
        rw [List.drop_append_of_le_length (by omega)]
theorem words_fold (s : List UInt8) (o : List (List UInt8)) (h : s.foldl stC ([], none) = (o, none)) : wordsF s = o := by
  have h1 := wAt_fold s s.length (Nat.le_refl _)
  rw [List.take_length, h] at h1
  have h2 : (wAt s s.length).2 = none := by
    rcases e : (wAt s s.length).2 with _ | f
    · rfl
    · rw [e] at h1
      cases congrArg Prod.snd h1
  have hb : blankAt s s.length = true := by unfold blankAt; rw [List.getElem?_eq_none (Nat.le_refl _)]
  unfold wordsF
  rw [wAt]
  unfold wStep
  rw [if_pos hb, h2]
  exact (congrArg Prod.fst h1).symm
/-- A byte of a word: a sign that may be seen, but no #. -/
def okC (c : UInt8) : Bool := decide (33 ≤ c.toNat ∧ c.toNat ≤ 126 ∧ c.toNat ≠ 35)
def okW (x : List UInt8) : Bool := !x.isEmpty && x.all okC
theorem okC_bl {c : UInt8} (h : okC c = true) : isBl c = false := by
  have := of_decide_eq_true h
  unfold isBl
  rw [decide_eq_false_iff_not]
  omega
theorem okW_ne {x : List UInt8} (h : okW x = true) : x ≠ [] := by
  rintro rfl
  cases h
theorem okW_all {x : List UInt8} (h : okW x = true) : ∀ c ∈ x, okC c = true := by
  unfold okW at h
  rw [Bool.and_eq_true, List.all_eq_true] at h
  exact h.2
theorem okW_mk {x : List UInt8} (h0 : x ≠ []) (h : ∀ c ∈ x, okC c = true) : okW x = true := by
  unfold okW
  rw [Bool.and_eq_true, List.all_eq_true]
  refine ⟨?_, h⟩
  rcases x with _ | ⟨a, l⟩
  · exact absurd rfl h0
  · rfl
theorem fold_some : ∀ (x : List UInt8), (∀ c ∈ x, okC c = true) → ∀ (o : List (List UInt8)) (y : List UInt8), x.foldl stC (o, some y) = (o, some (y ++ x))
  | [], _, o, y => by rw [List.foldl_nil, List.append_nil]
  | c :: x, h, o, y => by
    rw [List.foldl_cons]
    have e : stC (o, some y) c = (o, some (y ++ [c])) := by
      unfold stC
      rw [okC_bl (h c List.mem_cons_self)]
      rfl
    rw [e, fold_some x (fun d hd => h d (List.mem_cons_of_mem _ hd)), List.append_assoc]
    rfl
theorem fold_word {x : List UInt8} (h : okW x = true) (o : List (List UInt8)) : x.foldl stC (o, none) = (o, some x) := by
  rcases x with _ | ⟨c, x⟩
  · cases h
  · have ha := okW_all h
    rw [List.foldl_cons]
    have e : stC (o, none) c = (o, some [c]) := by
      unfold stC
      rw [okC_bl (ha c List.mem_cons_self)]
      rfl
    rw [e, fold_some x (fun d hd => ha d (List.mem_cons_of_mem _ hd))]
    rfl
/-- Words behind the first one, each behind blanks. -/
def tailM : List (List UInt8) → List UInt8
  | [] => []
  | y :: r => [32, 9, 32] ++ y ++ tailM r
theorem fold_tail : ∀ (r : List (List UInt8)), (∀ y ∈ r, okW y = true) → ∀ (o : List (List UInt8)) (x : List UInt8), (tailM r ++ [32]).foldl stC (o, some x) = (o ++ x :: r, none)
  | [], _, o, x => rfl
  | y :: r, h, o, x => by
    rw [tailM, List.append_assoc, List.append_assoc, List.foldl_append, List.foldl_append]
    have e : [32, 9, 32].foldl stC (o, some x) = (o ++ [x], none) := rfl
    rw [e, fold_word (h y List.mem_cons_self), fold_tail r (fun z hz => h z (List.mem_cons_of_mem _ hz)), List.append_assoc]
    rfl
def rowM : List (List UInt8) → List UInt8
  | [] => []
  | x :: r => x ++ tailM r
theorem words_row {row : List (List UInt8)} (h0 : row ≠ []) (h : ∀ y ∈ row, okW y = true) : wordsF (rowM row ++ [32]) = row := by
  rcases row with _ | ⟨x, r⟩
  · exact absurd rfl h0
  · refine words_fold _ _ ?_
    rw [rowM, List.append_assoc, List.foldl_append, fold_word (h x List.mem_cons_self), fold_tail r fun z hz => h z (List.mem_cons_of_mem _ hz)]
    rfl
/-- No break and no remark stands between a row's words. -/
theorem tailM_mem : ∀ (r : List (List UInt8)), (∀ y ∈ r, okW y = true) → ∀ c ∈ tailM r, okC c = true ∨ c = 32 ∨ c = 9
  | [], _, c, hc => by cases hc
  | y :: r, h, c, hc => by
    rw [tailM, List.mem_append, List.mem_append] at hc
    rcases hc with (hc | hc) | hc
    · simp only [List.mem_cons, List.not_mem_nil, or_false] at hc
      rcases hc with hc | hc | hc
      · exact .inr (.inl hc)
      · exact .inr (.inr hc)
      · exact .inr (.inl hc)
    · exact .inl (okW_all (h y List.mem_cons_self) c hc)
    · exact tailM_mem r (fun z hz => h z (List.mem_cons_of_mem _ hz)) c hc
theorem rowM_mem {row : List (List UInt8)} (h : ∀ y ∈ row, okW y = true) : ∀ c ∈ rowM row, okC c = true ∨ c = 32 ∨ c = 9 := by
  intro c hc
  rcases row with _ | ⟨x, r⟩
  · cases hc
  · rw [rowM, List.mem_append] at hc
    rcases hc with hc | hc
    · exact .inl (okW_all (h x List.mem_cons_self) c hc)
    · exact tailM_mem r (fun z hz => h z (List.mem_cons_of_mem _ hz)) c hc
theorem row_no {row : List (List UInt8)} (h : ∀ y ∈ row, okW y = true) (d : UInt8) (hd : okC d = false) (h1 : d ≠ 32) (h2 : d ≠ 9) : d ∉ rowM row := by
  intro hc
  rcases rowM_mem h d hc with e | e | e
  · rw [hd] at e; cases e
  · exact h1 e
  · exact h2 e
end Conf18
end Go.Proofs.YtcpokkkdmenmgaaDoor
/- conf, plain: rows of words with blanks and remarks between them are read as these rows. No condition. -/
namespace Go.Proofs.YtcpokkkdmenmgaaDoor
open Go.RowKit Go.ChangeShapes Go.WideShapes Go.ChangeAt Go.Deep
namespace Conf18
open Addr05 (splitL split_app split_no cut1_hit)
/-- A row as a text. -/
def tailT : List (List UInt8) → List UInt8
  | [] => []
  | y :: r => 32 :: y ++ tailT r
def rowT : List (List UInt8) → List UInt8
  | [] => []
  | x :: r => x ++ tailT r
def textR (rows : List (List (List UInt8))) : List UInt8 := rows.flatMap fun row => rowT row ++ [10]
/-- What stands in a byte's place. -/
def mb (rem : List UInt8) (c : UInt8) : List UInt8 := if c = 10 then [32, 35] ++ rem ++ [10, 9, 10] else if c = 32 then [32, 9, 32] else [c]
def moreF (rem s : List UInt8) : List UInt8 := 10 :: s.flatMap (mb rem)
theorem mb_word (rem : List UInt8) : ∀ (x : List UInt8), (∀ c ∈ x, okC c = true) → x.flatMap (mb rem) = x
  | [], _ => rfl
  | c :: x, h => by
    have hc := of_decide_eq_true (h c List.mem_cons_self)
    have e : mb rem c = [c] := by
      unfold mb
      rw [if_neg (by rintro rfl; revert hc; decide), if_neg (by rintro rfl; revert hc; decide)]
    rw [List.flatMap_cons, e, mb_word rem x fun d hd => h d (List.mem_cons_of_mem _ hd)]
    rfl
theorem mb_tail (rem : List UInt8) : ∀ (r : List (List UInt8)), (∀ y ∈ r, okW y = true) → (tailT r).flatMap (mb rem) = tailM r
  | [], _ => rfl
  | y :: r, h => by
    rw [tailT, List.cons_append, List.flatMap_cons, List.flatMap_append, mb_word rem y (okW_all (h y List.mem_cons_self)), mb_tail rem r fun z hz => h z (List.mem_cons_of_mem _ hz), tailM, List.append_assoc]
    rfl
theorem mb_row (rem : List UInt8) {row : List (List UInt8)} (h : ∀ y ∈ row, okW y = true) : (rowT row).flatMap (mb rem) = rowM row := by
  rcases row with _ | ⟨x, r⟩
  · rfl
  · rw [rowT, List.flatMap_append, mb_word rem x (okW_all (h x List.mem_cons_self)), mb_tail rem r fun z hz => h z (List.mem_cons_of_mem _ hz)]
    rfl
theorem mb_text (rem : List UInt8) : ∀ (rows : List (List (List UInt8))), (∀ row ∈ rows, ∀ y ∈ row, okW y = true) → (textR rows).flatMap (mb rem) = rows.flatMap fun row => rowM row ++ [32, 35] ++ rem ++ [10, 9, 10]
  | [], _ => rfl
  | row :: rows, h => by
    have ih := mb_text rem rows fun r hr => h r (List.mem_cons_of_mem _ hr)
    unfold textR at ih ⊢
    have e : [10].flatMap (mb rem) = [32, 35] ++ rem ++ [10, 9, 10] := by simp [mb]
    have e2 : ∀ a b : List UInt8, (a ++ b).flatMap (mb rem) = a.flatMap (mb rem) ++ b.flatMap (mb rem) := fun a b => List.flatMap_append
    rw [List.flatMap_cons, e2, e2, mb_row rem (h row List.mem_cons_self), ih, e, List.flatMap_cons]
    simp only [List.append_assoc]
/-- A remark's byte: it may stand in a text, and breaks no line. -/
def okR (rem : List UInt8) : Prop := ∀ c ∈ rem, rightC c.toNat = true ∧ c ≠ 10
def partsM (rem : List UInt8) (rows : List (List (List UInt8))) : List (List UInt8) := rows.flatMap fun row => [rowM row ++ [32, 35] ++ rem, [9]]
theorem body_no {rem : List UInt8} (hr : okR rem) {row : List (List UInt8)} (h : ∀ y ∈ row, okW y = true) : (10 : UInt8) ∉ rowM row ++ [32, 35] ++ rem := by
  rw [List.mem_append, List.mem_append]
  rintro ((hc | hc) | hc)
  · exact row_no h 10 (by decide) (by decide) (by decide) hc
  · revert hc; decide
  · exact (hr 10 hc).2 rfl
theorem split_more {rem : List UInt8} (hr : okR rem) : ∀ (rows : List (List (List UInt8))), (∀ row ∈ rows, ∀ y ∈ row, okW y = true) → splitL 10 (rows.flatMap fun row => rowM row ++ [32, 35] ++ rem ++ [10, 9, 10]) = partsM rem rows ++ [[]]
  | [], _ => by
    rw [List.flatMap_nil, split_no 10 [] (by simp)]
    rfl
  | row :: rows, h => by
    have ih := split_more hr rows fun r hr => h r (List.mem_cons_of_mem _ hr)
    have hb := body_no hr (h row List.mem_cons_self)
    rw [List.flatMap_cons]
    have e : ∀ (a b : List UInt8), (a ++ [10, 9, 10]) ++ b = a ++ 10 :: ([9] ++ 10 :: b) := fun a b => by simp
    rw [e, split_app 10 _ _ hb, split_app 10 [9] _ (by decide), ih]
    unfold partsM
    rw [List.flatMap_cons]
    rfl
theorem split_all {rem : List UInt8} (hr : okR rem) {rows : List (List (List UInt8))} (h : ∀ row ∈ rows, ∀ y ∈ row, okW y = true) : splitL 10 (moreF rem (textR rows)) = [] :: (partsM rem rows ++ [[]]) := by
  unfold moreF
  rw [mb_text rem rows h]
  have := split_app 10 [] (rows.flatMap fun row => rowM row ++ [32, 35] ++ rem ++ [10, 9, 10]) (by simp)
  rw [List.nil_append] at this
  rw [this, split_more hr rows h]
theorem lnW_row {row : List (List UInt8)} (rem : List UInt8) (h0 : row ≠ []) (h : ∀ y ∈ row, okW y = true) : lnW (rowM row ++ [32, 35] ++ rem) = row := by
  have e : rowM row ++ [32, 35] ++ rem = (rowM row ++ [32]) ++ 35 :: rem := by simp
  unfold lnW
  rw [e, cut1_hit]
  · exact words_row h0 h
  · rw [List.mem_append, not_or]
    exact ⟨row_no h 35 (by decide) (by decide) (by decide), by decide⟩
theorem lnW_nil : lnW [] = [] := by kernel_rfl
theorem lnW_tab : lnW [9] = [] := by kernel_rfl
theorem lnA_snd (ps : List (List UInt8)) : ∀ i, (lnA ps i).map (·.2) = ((ps.take i).map lnW).filter fun x => !x.isEmpty
  | 0 => rfl
  | i + 1 => by
    have ih := lnA_snd ps i
    unfold lnA
    rcases e : ps[i]? with _ | x
    · rw [List.take_add_one, e]
      simp only [Option.toList, List.append_nil]
      exact ih
    · rw [List.take_add_one, e]
      simp only [Option.toList, List.map_append, List.map_cons, List.map_nil, List.filter_append]
      by_cases hx : lnW x = []
      · rw [if_pos hx, hx, ih]
        simp
      · rw [if_neg hx, List.map_append, ih]
        congr 1
        rcases hy : lnW x with _ | ⟨a, l⟩
        · exact absurd hy hx
        · rfl
theorem lnA_rows {rem : List UInt8} : ∀ (rows : List (List (List UInt8))), (∀ row ∈ rows, row ≠ [] ∧ ∀ y ∈ row, okW y = true) → ((partsM rem rows ++ [[]]).map lnW).filter (fun x => !x.isEmpty) = rows
  | [], _ => by
    show ([lnW []]).filter _ = []
    rw [lnW_nil]
    rfl
  | row :: rows, h => by
    have ih := lnA_rows (rem := rem) rows fun r hr => h r (List.mem_cons_of_mem _ hr)
    obtain ⟨h1, h2⟩ := h row List.mem_cons_self
    unfold partsM at ih ⊢
    rw [List.flatMap_cons, List.append_assoc, List.map_append, List.filter_append, ih]
    simp only [List.map_cons, List.map_nil]
    rw [lnW_row rem h1 h2, lnW_tab]
    rcases row with _ | ⟨a, l⟩
    · exact absurd rfl h1
    · rfl
/-- What rows of words make of a configuration. -/
def runF : Cfg → List (List (List UInt8)) → Option Cfg
  | c, [] => some c
  | c, x :: l => match lineF c x with
    | .ok c' => runF c' l
    | .error _ => none
theorem runF_app (a b : List (List (List UInt8))) : ∀ c, runF c (a ++ b) = (runF c a).bind fun c' => runF c' b := by
  induction a with
  | nil => intro c; rfl
  | cons x a ih =>
    intro c
    rw [List.cons_append, runF, runF]
    rcases lineF c x with m | c'
    · rfl
    · exact ih c'
theorem linesF_run : ∀ (L : List (Nat × List (List UInt8))) (c c' : Cfg), runF c (L.map (·.2)) = some c' → linesF c L = .ok c'
  | [], c, c', h => by
    cases h
    rfl
  | x :: L, c, c', h => by
    rw [List.map_cons, runF] at h
    rw [linesF]
    rcases e : lineF c x.2 with m | c1
    · rw [e] at h; cases h
    · rw [e] at h
      exact linesF_run L c1 c' h
theorem lex_all (ps : List (List UInt8)) (hn : ps.length ≤ 4096) (h : ∀ x ∈ ps, (x.all fun c => rightC c.toNat) = true) : lexE 0 ps = none := by
  refine lexE_none ps 0 fun j y hy => ?_
  have hj := (List.getElem?_eq_some_iff.1 hy).1
  unfold lnBad
  rw [if_neg (by omega), if_pos (h y (List.mem_of_getElem? hy))]
theorem okC_right {c : UInt8} (h : okC c = true) : rightC c.toNat = true := by
  have := of_decide_eq_true h
  unfold rightC
  exact decide_eq_true (.inl ⟨by omega, by omega⟩)
theorem body_right {rem : List UInt8} (hr : okR rem) {row : List (List UInt8)} (h : ∀ y ∈ row, okW y = true) : ((rowM row ++ [32, 35] ++ rem).all fun c => rightC c.toNat) = true := by
  rw [List.all_eq_true]
  intro c hc
  rw [List.mem_append, List.mem_append] at hc
  rcases hc with (hc | hc) | hc
  · rcases rowM_mem h c hc with e | rfl | rfl
    · exact okC_right e
    · decide
    · decide
  · revert c
    decide
  · exact (hr c hc).1
theorem parts_len (rem : List UInt8) : ∀ rows : List (List (List UInt8)), (partsM rem rows).length = 2 * rows.length
  | [] => rfl
  | row :: rows => by
    have ih := parts_len rem rows
    unfold partsM at ih ⊢
    rw [List.flatMap_cons, List.length_append, ih, List.length_cons]
    simp only [List.length_cons, List.length_nil]
    omega
/-- Rows with remarks are read as what the rows make. -/
theorem conf_rows {rem : List UInt8} (hr : okR rem) {rows : List (List (List UInt8))} (hn : rows.length ≤ 1000) (h : ∀ row ∈ rows, row ≠ [] ∧ ∀ y ∈ row, okW y = true) {c : Cfg} (hc : runF startC rows = some c) : confF (moreF rem (textR rows)) = .ok c := by
  have hk : ∀ row ∈ rows, ∀ y ∈ row, okW y = true := fun r hr => (h r hr).2
  have hl := parts_len rem rows
  unfold confF
  rw [split_all hr hk]
  have e1 : lexE 0 ([] :: (partsM rem rows ++ [[]])) = none := by
    refine lex_all _ (by simp only [List.length_cons, List.length_append, List.length_nil]; omega) fun x hx => ?_
    rcases List.mem_cons.1 hx with rfl | hx
    · rfl
    · rcases List.mem_append.1 hx with hx | hx
      · unfold partsM at hx
        obtain ⟨row, h1, h2⟩ := List.mem_flatMap.1 hx
        simp only [List.mem_cons, List.not_mem_nil, or_false] at h2
        rcases h2 with rfl | rfl
        · exact body_right hr (hk row h1)
        · decide
      · rw [List.mem_singleton] at hx
        subst hx
        rfl
  rw [e1]
  dsimp only
  have e2 := lnA_snd ([] :: (partsM rem rows ++ [[]])) ([] :: (partsM rem rows ++ [[]])).length
  rw [List.take_length, List.map_cons, lnW_nil] at e2
  have e3 : ((lnA ([] :: (partsM rem rows ++ [[]])) ([] :: (partsM rem rows ++ [[]])).length).map (·.2)) = rows := by
    rw [e2, List.filter_cons_of_neg (by simp)]
    exact lnA_rows rows h
  rw [linesF_run _ _ _ (by rw [e3]; exact hc)]
end Conf18
end Go.Proofs.YtcpokkkdmenmgaaDoor
/- tree, plain: which nodes may be, and what a tree says of them. No condition. -/
namespace Go.Proofs.YtcpokkkdmenmgaaDoor
open Go.RowKit Go.ChangeShapes Go.WideShapes Go.ChangeAt Go.Deep
namespace Tree16
open Conf18 (Nd zA)
open Addr05 (Adr)
def nameC (v : Nat) : Prop := (97 ≤ v ∧ v ≤ 122) ∨ (65 ≤ v ∧ v ≤ 90) ∨ (48 ≤ v ∧ v ≤ 57) ∨ v = 45 ∨ v = 95 ∨ v = 46
instance (v : Nat) : Decidable (nameC v) := by unfold nameC; infer_instance
def nameF (s : List UInt8) : Bool := decide (1 ≤ s.length ∧ s.length ≤ 32) && s.all fun c => decide (nameC c.toNat)
def clash (n x : Nd) : Bool := decide (x.name = n.name ∨ (n.kind = 4 ∧ x.kind = 4 ∧ x.a = n.a))
def rightA (a : Adr) : Bool := decide a.right
/-- Why a node may not be, that stands behind others; 0: it may. -/
def rightF (n : Nd) (l : List Nd) : Nat :=
  if nameF n.name = false ∨ n.kind < 1 ∨ 4 < n.kind then 1
  else if n.weight < 0 ∨ 65535 < n.weight ∨ (n.kind = 1 ∧ n.weight ≠ 0) then 17
  else if (n.kind = 1 ∧ n.above ≠ -1) ∨ (1 < n.kind ∧ (n.above < 0 ∨ (l.length : Int) ≤ n.above)) then 16
  else if 1 < n.kind ∧ (l.getD n.above.toNat n).kind ≠ n.kind - 1 then 16
  else if rightA n.a = false ∨ (n.kind ≠ 4 ∧ n.a ≠ zA) then 18
  else if (l.any (clash n)) = true then 8 else 0
/-- The places of nodes that a test names. -/
def placesN (p : Nd → Bool) (ns : List Nd) : List Nat := (List.range ns.length).filter fun i => (ns[i]?).any p
def placesF (p : Nd → Bool) (ns : List Nd) : List Int := (placesN p ns).map fun (i : Nat) => (i : Int)
def topF (ns : List Nd) : List Int := placesF (fun n => decide (n.kind = 1)) ns
def hostsF (ns : List Nd) : List Int := placesF (fun n => decide (n.kind = 4)) ns
def kidsF (ns : List Nd) (i : Nat) : List Int := placesF (fun n => decide (n.above = (i : Int))) ns
theorem placesN_snoc (p : Nd → Bool) (ns : List Nd) (n : Nd) : placesN p (ns ++ [n]) = if p n = true then placesN p ns ++ [ns.length] else placesN p ns := by
  unfold placesN
  rw [List.length_append, List.length_singleton, List.range_succ, List.filter_append]
  have e : (List.range ns.length).filter (fun i => ((ns ++ [n])[i]?).any p) = (List.range ns.length).filter (fun i => (ns[i]?).any p) := by
    apply List.filter_congr
    intro i hi
    have := List.mem_range.1 hi
    rw [List.getElem?_append_left this]
  rw [e]
  by_cases h : p n = true
  · simp [h]
  · simp [h]
theorem placesF_snoc (p : Nd → Bool) (ns : List Nd) (n : Nd) : placesF p (ns ++ [n]) = if p n = true then placesF p ns ++ [(ns.length : Int)] else placesF p ns := by
  unfold placesF
  rw [placesN_snoc]
  split
  · rw [List.map_append]; rfl
  · rfl
/-- Why no more nodes may be; 0: one more may. -/
def badF (n : Nd) (l : List Nd) : Nat := if rightF n l ≠ 0 then rightF n l else if 1024 ≤ l.length ∨ (n.kind = 1 ∧ 4 ≤ (topF l).length) ∨ (n.kind = 4 ∧ 512 ≤ (hostsF l).length) then 6 else 0
/-- The first node that may not be, and why. -/
def treeE (l : List Nd) : Nat → Option (Nat × Nat)
  | 0 => none
  | i + 1 => match treeE l i with
    | some p => some p
    | none => match l[i]? with
      | none => none
      | some n => if badF n (l.take i) ≠ 0 then some (i, badF n (l.take i)) else none
def treeF (l : List Nd) : Option (Nat × Nat) := treeE l l.length
theorem treeE_some {l : List Nd} {i : Nat} {n : Nd} (h : treeE l i = none) (hn : l[i]? = some n) (hb : badF n (l.take i) ≠ 0) : treeF l = some (i, badF n (l.take i)) := by
  have h1 : treeE l (i + 1) = some (i, badF n (l.take i)) := by
    rw [treeE, h, hn]
    exact if_pos hb
  have h2 : ∀ k, treeE l (i + 1 + k) = some (i, badF n (l.take i)) := by
    intro k
    induction k with
    | zero => exact h1
    | succ k ih => rw [← Nat.add_assoc, treeE, ih]
  have hl := (List.getElem?_eq_some_iff.1 hn).1
  have := h2 (l.length - (i + 1))
  rw [show i + 1 + (l.length - (i + 1)) = l.length by omega] at this
  exact this
theorem treeE_next {l : List Nd} {i : Nat} {n : Nd} (h : treeE l i = none) (hn : l[i]? = some n) (hb : badF n (l.take i) = 0) : treeE l (i + 1) = none := by
  rw [treeE, h, hn]
  exact if_neg (fun e => e hb)
end Tree16
end Go.Proofs.YtcpokkkdmenmgaaDoor
/- conf, plain: what a configuration that was read holds: addresses that are numbers of 64 bits, and names no longer than the text. No condition. -/
namespace Go.Proofs.YtcpokkkdmenmgaaDoor
open Go.RowKit Go.ChangeShapes Go.WideShapes Go.ChangeAt Go.Deep
namespace Conf18
open Addr05 (Adr parseF pfxF parse_some pfx_some splitL)
structure Cfg.good (c : Cfg) (M : Nat) : Prop where
  nodes : ∀ n ∈ c.nodes, n.a.ok ∧ n.name.length ≤ M
  vips : ∀ v ∈ c.vips, v.a.ok
  views : ∀ v ∈ c.views, v.a.ok
  s0 : c.s0.ok
  s1 : c.s1.ok
theorem zA_ok : zA.ok := by unfold Adr.ok; decide
theorem startC_good (M : Nat) : startC.good M := ⟨(fun n h => by simp [startC] at h), (fun n h => by simp [startC] at h), (fun n h => by simp [startC] at h), zA_ok, zA_ok⟩
theorem wd_le {ws : List (List UInt8)} {M : Nat} (h : ∀ y ∈ ws, y.length ≤ M) (i : Nat) : (wd ws i).length ≤ M := by
  unfold wd
  rw [List.getD_eq_getElem?_getD]
  rcases e : ws[i]? with _ | y
  · exact Nat.zero_le _
  · exact h y (List.mem_of_getElem? e)
theorem lineF_good {c c' : Cfg} {ws : List (List UInt8)} {M : Nat} (h : c.good M) (hw : ∀ y ∈ ws, y.length ≤ M) (he : lineF c ws = .ok c') : c'.good M := by
  obtain ⟨h1, h2, h3, h4, h5⟩ := h
  unfold lineF at he
  split at he
  · unfold factorF at he
    repeat' split at he
    all_goals cases he
    exact ⟨h1, h2, h3, h4, h5⟩
  split at he
  · unfold domainF at he
    repeat' split at he
    all_goals cases he
    exact ⟨h1, h2, h3, h4, h5⟩
  split at he
  · unfold selfF at he
    split at he
    · cases he
    · split at he
      · cases he
      · rename_i a ha
        have ho := (parse_some _ _ ha).2.1
        by_cases hv : a.v6 = true
        · simp only [hv, if_true] at he
          repeat' split at he
          all_goals cases he
          exact ⟨h1, h2, h3, h4, ho⟩
        · simp only [hv] at he
          repeat' split at he
          all_goals cases he
          all_goals first
            | exact ⟨h1, h2, h3, ho, h5⟩
            | exact absurd ‹false = true› (by decide)
  split at he
  · unfold vipF at he
    split at he
    · cases he
    · split at he
      · cases he
      · rename_i a ha
        have ho := (parse_some _ _ ha).2.1
        repeat' split at he
        all_goals cases he
        refine ⟨h1, fun v hv => ?_, h3, h4, h5⟩
        rcases List.mem_append.1 hv with hv | hv
        · exact h2 v hv
        · rw [List.mem_singleton] at hv
          subst hv
          exact ho
  split at he
  · unfold viewF at he
    split at he
    · cases he
    · split at he
      · cases he
      · rename_i p hp
        have ho := (pfx_some _ p.1 p.2 hp).2.2
        repeat' split at he
        all_goals cases he
        refine ⟨h1, h2, fun v hv => ?_, h4, h5⟩
        rcases List.mem_append.1 hv with hv | hv
        · exact h3 v hv
        · rw [List.mem_singleton] at hv
          subst hv
          exact ho
  split at he
  · unfold nodeF at he
    split at he
    · cases he
    · split at he
      · cases he
      · split at he
        · cases he
        · split at he
          · cases he
          · rename_i a ha
            have ho : a.ok := by
              unfold nadrF at ha
              split at ha
              · cases ha
                exact zA_ok
              · exact (parse_some _ _ ha).2.1
            split at he
            · cases he
            · cases he
              refine ⟨fun v hv => ?_, h2, h3, h4, h5⟩
              rcases List.mem_append.1 hv with hv | hv
              · exact h1 v hv
              · rw [List.mem_singleton] at hv
                subst hv
                exact ⟨ho, wd_le hw 1⟩
  · cases he
theorem linesF_good {M : Nat} : ∀ (l : List (Nat × List (List UInt8))) {c c' : Cfg}, c.good M → (∀ p ∈ l, ∀ y ∈ p.2, y.length ≤ M) → linesF c l = .ok c' → c'.good M
  | [], c, c', h, _, he => by
    unfold linesF at he
    cases he
    exact h
  | x :: l, c, c', h, hw, he => by
    unfold linesF at he
    split at he
    · cases he
    · rename_i c2 h2
      exact linesF_good l (lineF_good h (hw x (by simp)) h2) (fun p hp => hw p (by simp [hp])) he
theorem confF_good {s : List UInt8} {c : Cfg} (h : confF s = .ok c) : c.good s.length := by
  unfold confF at h
  split at h
  · cases h
  · split at h
    · cases h
    · rename_i c2 h2
      cases h
      refine linesF_good _ (startC_good _) (fun p hp => ?_) h2
      exact (lnA_words (splitL 10 s) s.length (Addr05.split_part 10 s) _ p hp).2
end Conf18
end Go.Proofs.YtcpokkkdmenmgaaDoor
