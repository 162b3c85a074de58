/- tree, plain: which nodes may be, and what a tree says of them. No condition. -/
import Derived.Test.YtcpokkkdmenmgaaGreatDoorQStorePlays10
import Derived.Test.YtcpokkkdmenmgaaGreatDoorQStorePlays7
import Derived.Test.YtcpokkkdmenmgaaGreatDoorQStorePlays4
import Derived.Test.YtcpokkkdmenmgaaGreatDoorQStorePlays2
import Derived.Test.YtcpokkkdmenmgaaGreatDoorQStorePlays3
import Derived.Test.YtcpokkkdmenmgaaGreatDoorQStorePlays5
import Derived.Test.YtcpokkkdmenmgaaGreatDoorQStorePlays6
import Derived.HandedShaped
import Derived.LaidMore
import Derived.Lay
import Derived.Maps.Own
import Derived.Maps.OwnOps
import Derived.Maps.OwnSet
import Derived.Maps.Views
import Derived.OpenShut
import Derived.Shelf.Vars
import Derived.Stop.Joined
import Derived.StringKeys
namespace Go.Proofs.YtcpokkkdmenmgaaGreatDoor
open Go.RowKit Go.ChangeShapes Go.WideShapes Go.ChangeAt Go.Deep
namespace Tree16
open Conf18 (Nd zA)
open Addr05 (Adr)
def nameC (v : Nat) : Prop := (97 ≤ v ∧ v ≤ 122) ∨ (65 ≤ v ∧ v ≤ 90) ∨ (48 ≤ v ∧ v ≤ 57) ∨ v = 45 ∨ v = 95 ∨ v = 46
instance (v : Nat) : Decidable (nameC v) := by unfold nameC; infer_instance
def nameF (s : List UInt8) : Bool := decide (1 ≤ s.length ∧ s.length ≤ 32) && s.all fun c => decide (nameC c.toNat)
def clash (n x : Nd) : Bool := decide (x.name = n.name ∨ (n.kind = 4 ∧ x.kind = 4 ∧ x.a = n.a))
def rightA (a : Adr) : Bool := decide a.right
/-- Why a node may not be, that stands behind others; 0: it may. -/
def rightF (n : Nd) (l : List Nd) : Nat :=
  if nameF n.name = false ∨ n.kind < 1 ∨ 4 < n.kind then 1
  else if n.weight < 0 ∨ 65535 < n.weight ∨ (n.kind = 1 ∧ n.weight ≠ 0) then 17
  else if (n.kind = 1 ∧ n.above ≠ -1) ∨ (1 < n.kind ∧ (n.above < 0 ∨ (l.length : Int) ≤ n.above)) then 16
  else if 1 < n.kind ∧ (l.getD n.above.toNat n).kind ≠ n.kind - 1 then 16
  else if rightA n.a = false ∨ (n.kind ≠ 4 ∧ n.a ≠ zA) then 18
  else if (l.any (clash n)) = true then 8 else 0
/-- The places of nodes that a test names. -/
def placesN (p : Nd → Bool) (ns : List Nd) : List Nat := (List.range ns.length).filter fun i => (ns[i]?).any p
def placesF (p : Nd → Bool) (ns : List Nd) : List Int := (placesN p ns).map fun (i : Nat) => (i : Int)
def topF (ns : List Nd) : List Int := placesF (fun n => decide (n.kind = 1)) ns
def hostsF (ns : List Nd) : List Int := placesF (fun n => decide (n.kind = 4)) ns
def kidsF (ns : List Nd) (i : Nat) : List Int := placesF (fun n => decide (n.above = (i : Int))) ns
theorem placesN_snoc (p : Nd → Bool) (ns : List Nd) (n : Nd) : placesN p (ns ++ [n]) = if p n = true then placesN p ns ++ [ns.length] else placesN p ns := by
  unfold placesN
  rw [List.length_append, List.length_singleton, List.range_succ, List.filter_append]
  have e : (List.range ns.length).filter (fun i => ((ns ++ [n])[i]?).any p) = (List.range ns.length).filter (fun i => (ns[i]?).any p) := by
    apply List.filter_congr
    intro i hi
    have := List.mem_range.1 hi
    rw [List.getElem?_append_left this]
  rw [e]
  by_cases h : p n = true
  · simp [h]
  · simp [h]
theorem placesF_snoc (p : Nd → Bool) (ns : List Nd) (n : Nd) : placesF p (ns ++ [n]) = if p n = true then placesF p ns ++ [(ns.length : Int)] else placesF p ns := by
  unfold placesF
  rw [placesN_snoc]
  split
  · rw [List.map_append]; rfl
  · rfl
/-- Why no more nodes may be; 0: one more may. -/
def badF (n : Nd) (l : List Nd) : Nat := if rightF n l ≠ 0 then rightF n l else if 1024 ≤ l.length ∨ (n.kind = 1 ∧ 4 ≤ (topF l).length) ∨ (n.kind = 4 ∧ 512 ≤ (hostsF l).length) then 6 else 0
/-- The first node that may not be, and why. -/
def treeE (l : List Nd) : Nat → Option (Nat × Nat)
  | 0 => none
  | i + 1 => match treeE l i with
    | some p => some p
    | none => match l[i]? with
      | none => none
      | some n => if badF n (l.take i) ≠ 0 then some (i, badF n (l.take i)) else none
def treeF (l : List Nd) : Option (Nat × Nat) := treeE l l.length
theorem treeE_some {l : List Nd} {i : Nat} {n : Nd} (h : treeE l i = none) (hn : l[i]? = some n) (hb : badF n (l.take i) ≠ 0) : treeF l = some (i, badF n (l.take i)) := by
  have h1 : treeE l (i + 1) = some (i, badF n (l.take i)) := by
    rw [treeE, h, hn]
    exact if_pos hb
  have h2 : ∀ k, treeE l (i + 1 + k) = some (i, badF n (l.take i)) := by
    intro k
    induction k with
    | zero => exact h1
    | succ k ih => rw [← Nat.add_assoc, treeE, ih]
  have hl := (List.getElem?_eq_some_iff.1 hn).1
  have := h2 (l.length - (i + 1))
  rw [show i + 1 + (l.length - (i + 1)) = l.length by omega] at this
  exact this
theorem treeE_next {l : List Nd} {i : Nat} {n : Nd} (h : treeE l i = none) (hn : l[i]? = some n) (hb : badF n (l.take i) = 0) : treeE l (i + 1) = none := by
  rw [treeE, h, hn]
  exact if_neg (fun e => e hb)
end Tree16
end Go.Proofs.YtcpokkkdmenmgaaGreatDoor
/- conf: kind, proto. No condition. -/
namespace Go.Proofs.YtcpokkkdmenmgaaGreatDoor
open Go.RowKit Go.ChangeShapes Go.WideShapes Go.ChangeAt Go.Deep
namespace Conf18
theorem eqw (y l : List UInt8) : ((str y).toList == l) = decide (y = l) := by
  rw [show (str y).toList = y by simp [str, ByteArray.toList_eq]]
  by_cases h : y = l
  · subst h; simp
  · rw [decide_eq_false h, beq_eq_false_iff_ne]; exact h
set_option maxRecDepth 20000 in
set_option maxHeartbeats 8000000 in
theorem proto_any (y : List UInt8) (w : World) : Calls Tryz.prog 63 #[.string (str y)] w fun e w' => e = .returned (.int .i64 (protoF y : Int)) ∧ w' = w := by
  have t1 := eqw y [116, 99, 112]
  have t2 := eqw y [117, 100, 112]
  obtain ⟨p, hp⟩ : ∃ p, protoF y = p := ⟨_, rfl⟩
  rw [hp]
  unfold protoF wTcp wUdp at hp
  by_cases h1 : y = [116, 99, 112]
  · rw [decide_eq_true h1] at t1
    rw [if_pos h1] at hp
    clear h1 t2
    subst hp
    go_enter Tryz.func63, Tryz.ntmps63
    go_wp2_with fail
    go_ret
    exact ⟨rfl, rfl⟩
  rw [decide_eq_false h1] at t1
  rw [if_neg h1] at hp
  by_cases h2 : y = [117, 100, 112]
  · rw [decide_eq_true h2] at t2
    rw [if_pos h2] at hp
    clear h1 h2
    subst hp
    go_enter Tryz.func63, Tryz.ntmps63
    go_wp2_with fail
    go_ret
    exact ⟨rfl, rfl⟩
  rw [decide_eq_false h2] at t2
  rw [if_neg h2] at hp
  clear h1 h2
  subst hp
  go_enter Tryz.func63, Tryz.ntmps63
  go_wp2_with fail
  go_ret
  exact ⟨rfl, rfl⟩
set_option maxRecDepth 20000 in
set_option maxHeartbeats 8000000 in
theorem kind_any (y : List UInt8) (w : World) : Calls Tryz.prog 61 #[.string (str y)] w fun e w' => e = .returned (.int .i64 (kindF y : Int)) ∧ w' = w := by
  have t1 := eqw y [108, 101, 118, 101, 108]
  have t2 := eqw y [122, 111, 110, 101]
  have t3 := eqw y [114, 97, 99, 107]
  have t4 := eqw y [104, 111, 115, 116]
  obtain ⟨p, hp⟩ : ∃ p, kindF y = p := ⟨_, rfl⟩
  rw [hp]
  unfold kindF wLevel wZone wRack wHost at hp
  by_cases h1 : y = [108, 101, 118, 101, 108]
  · rw [decide_eq_true h1] at t1
    rw [if_pos h1] at hp
    clear h1 t2 t3 t4
    subst hp
    go_enter Tryz.func61, Tryz.ntmps61
    go_wp2_with fail
    go_ret
    exact ⟨rfl, rfl⟩
  rw [decide_eq_false h1] at t1
  rw [if_neg h1] at hp
  by_cases h2 : y = [122, 111, 110, 101]
  · rw [decide_eq_true h2] at t2
    rw [if_pos h2] at hp
    clear h1 h2 t3 t4
    subst hp
    go_enter Tryz.func61, Tryz.ntmps61
    go_wp2_with fail
    go_ret
    exact ⟨rfl, rfl⟩
  rw [decide_eq_false h2] at t2
  rw [if_neg h2] at hp
  by_cases h3 : y = [114, 97, 99, 107]
  · rw [decide_eq_true h3] at t3
    rw [if_pos h3] at hp
    clear h1 h2 h3 t4
    subst hp
    go_enter Tryz.func61, Tryz.ntmps61
    go_wp2_with fail
    go_ret
    exact ⟨rfl, rfl⟩
  rw [decide_eq_false h3] at t3
  rw [if_neg h3] at hp
  by_cases h4 : y = [104, 111, 115, 116]
  · rw [decide_eq_true h4] at t4
    rw [if_pos h4] at hp
    clear h1 h2 h3 h4
    subst hp
    go_enter Tryz.func61, Tryz.ntmps61
    go_wp2_with fail
    go_ret
    exact ⟨rfl, rfl⟩
  rw [decide_eq_false h4] at t4
  rw [if_neg h4] at hp
  clear h1 h2 h3 h4
  subst hp
  go_enter Tryz.func61, Tryz.ntmps61
  go_wp2_with fail
  go_ret
  exact ⟨rfl, rfl⟩
end Conf18
end Go.Proofs.YtcpokkkdmenmgaaGreatDoor
/- conf, plain: what a text is as a configuration, or which line is wrong. No condition. -/
namespace Go.Proofs.YtcpokkkdmenmgaaGreatDoor
open Go.RowKit Go.ChangeShapes Go.WideShapes Go.ChangeAt Go.Deep
namespace Conf18
open Addr05 (splitL split_part cut_len)
theorem wAt_words (s : List UInt8) : ∀ i, ∀ y ∈ (wAt s i).1, y.length ≤ s.length
  | 0, y, h => by cases h
  | i + 1, y, h => by
    have ih := wAt_words s i
    rw [wAt] at h
    unfold wStep at h
    split at h
    · split at h
      · rcases List.mem_append.1 h with h1 | h1
        · exact ih y h1
        · rw [List.mem_singleton] at h1
          subst h1
          rw [List.length_drop, List.length_take]
          omega
      · exact ih y h
    · split at h <;> exact ih y h
theorem lnA_words (ps : List (List UInt8)) (M : Nat) (h : ∀ x ∈ ps, x.length ≤ M) : ∀ i, ∀ p ∈ lnA ps i, p.2 ≠ [] ∧ ∀ y ∈ p.2, y.length ≤ M
  | 0, p, hp => by cases hp
  | i + 1, p, hp => by
    have ih := lnA_words ps M h i
    unfold lnA at hp
    split at hp
    · exact ih p hp
    · rename_i x hx
      split at hp
      · exact ih p hp
      · rename_i hne
        rcases List.mem_append.1 hp with h1 | h1
        · exact ih p h1
        · rw [List.mem_singleton] at h1
          subst h1
          refine ⟨hne, fun y hy => ?_⟩
          have h2 := wAt_words _ _ y hy
          have h3 := (cut_len x [35]).1
          have h4 := h x (List.mem_of_getElem? hx)
          omega
theorem linesF_app (c : Cfg) (a b : List (Nat × List (List UInt8))) : linesF c (a ++ b) = match linesF c a with | .error e => .error e | .ok c' => linesF c' b := by
  induction a generalizing c with
  | nil => rfl
  | cons x a ih =>
    rw [List.cons_append, linesF, linesF]
    split
    · rfl
    · exact ih _
theorem linesF_next {c0 c c1 : Cfg} {L : List (Nat × List (List UInt8))} {i : Nat} {x : Nat × List (List UInt8)} (h1 : L[i]? = some x) (h2 : linesF c0 (L.take i) = .ok c) (h3 : lineF c x.2 = .ok c1) : linesF c0 (L.take (i + 1)) = .ok c1 := by
  rw [List.take_add_one, h1, linesF_app, h2]
  simp only [Option.toList, linesF, h3]
theorem linesF_err {c0 c : Cfg} {L : List (Nat × List (List UInt8))} {i : Nat} {x : Nat × List (List UInt8)} {m : Nat} (h1 : L[i]? = some x) (h2 : linesF c0 (L.take i) = .ok c) (h3 : lineF c x.2 = .error m) : linesF c0 L = .error (x.1, m) := by
  have h4 : linesF c0 (L.take (i + 1)) = .error (x.1, m) := by
    rw [List.take_add_one, h1, linesF_app, h2]
    simp only [Option.toList, linesF, h3]
  have := linesF_app c0 (L.take (i + 1)) (L.drop (i + 1))
  rw [List.take_append_drop, h4] at this
  exact this
/-- The first part that is wrong, from a place on. -/
def lexE : Nat → List (List UInt8) → Option (Nat × Int)
  | _, [] => none
  | i, x :: r => if lnBad i x ≠ 0 then some (i + 1, lnBad i x) else lexE (i + 1) r
theorem lexE_some (ps : List (List UInt8)) (k : Nat) (i : Nat) (x : List UInt8) (h1 : ps[i]? = some x) (h2 : lnBad (k + i) x ≠ 0) (h3 : ∀ (j : Nat) (y : List UInt8), j < i → ps[j]? = some y → lnBad (k + j) y = 0) : lexE k ps = some (k + i + 1, lnBad (k + i) x) := by
  induction ps generalizing k i with
  | nil => simp at h1
  | cons y ps ih =>
    unfold lexE
    cases i with
    | zero =>
      simp at h1
      subst h1
      simp only [Nat.add_zero] at h2 ⊢
      rw [if_pos h2]
    | succ i =>
      have h4 := h3 0 y (by omega) rfl
      rw [Nat.add_zero] at h4
      rw [if_neg (fun h => h h4)]
      have := ih (k + 1) i (by simpa using h1) (by rw [Nat.add_assoc, Nat.add_comm 1 i]; exact h2) (fun j z hj hz => by
        have := h3 (j + 1) z (by omega) (by simpa using hz)
        rw [Nat.add_assoc, Nat.add_comm 1 j]; exact this)
      rw [this]
      rw [show k + 1 + i = k + (i + 1) by omega]
theorem lexE_none (ps : List (List UInt8)) (k : Nat) (h3 : ∀ (j : Nat) (y : List UInt8), ps[j]? = some y → lnBad (k + j) y = 0) : lexE k ps = none := by
  induction ps generalizing k with
  | nil => rfl
  | cons y ps ih =>
    unfold lexE
    have h4 := h3 0 y rfl
    rw [Nat.add_zero] at h4
    rw [if_neg (fun h => h h4)]
    exact ih (k + 1) (fun j z hz => by
      have := h3 (j + 1) z (by simpa using hz)
      rw [Nat.add_assoc, Nat.add_comm 1 j]; exact this)
/-- What a text is as a configuration, or the line that is wrong, and why. -/
def confF (s : List UInt8) : Except (Nat × Int) Cfg := match lexE 0 (splitL 10 s) with
  | some p => .error p
  | none => match linesF startC (lnA (splitL 10 s) (splitL 10 s).length) with
    | .error p => .error (p.1, (p.2 : Int))
    | .ok c => .ok c
end Conf18
end Go.Proofs.YtcpokkkdmenmgaaGreatDoor
/- tree: Name. Condition: texts of at most 2^40 bytes. -/
namespace Go.Proofs.YtcpokkkdmenmgaaGreatDoor
open Go.RowKit Go.ChangeShapes Go.WideShapes Go.ChangeAt Go.Deep
namespace Tree16
open Addr05 (str_get size_str)
set_option maxRecDepth 20000 in
set_option maxHeartbeats 8000000 in
theorem name_any (s : List UInt8) (hs : s.length ≤ 1099511627776) (w : World) :
    Calls Tryz.prog 65 #[.string (str s)] w fun e w' => e = .returned (.bool (nameF s)) ∧ w' = w := by
  have hsz : (str s).size = s.length := size_str s
  obtain ⟨X, hX⟩ : ∃ X, nameF s = X := ⟨_, rfl⟩
  rw [hX]
  by_cases hlen : 1 ≤ s.length ∧ s.length ≤ 32
  · have hX1 : ∀ (k : Nat) (c : UInt8), s[k]? = some c → ¬ nameC c.toNat → X = false := by
      intro k c hk hc
      rw [← hX]
      unfold nameF
      have : (s.all fun c => decide (nameC c.toNat)) = false := by
        rw [List.all_eq_false]
        exact ⟨c, List.mem_of_getElem? hk, by simpa using hc⟩
      rw [this, Bool.and_false]
    have hX2 : (∀ (k : Nat) (c : UInt8), s[k]? = some c → nameC c.toNat) → X = true := by
      intro h
      rw [← hX]
      unfold nameF
      rw [decide_eq_true hlen, Bool.true_and, List.all_eq_true]
      intro c hc
      obtain ⟨k, hk⟩ := List.mem_iff_getElem?.1 hc
      exact decide_eq_true (h k c hk)
    have t1 : ¬ (s.length : Int) < 1 := by omega
    have t2 : ¬ (32 : Int) < (s.length : Int) := by omega
    obtain ⟨n, hn⟩ : ∃ n, s.length = n := ⟨_, rfl⟩
    rw [hn] at hsz t1 t2 hlen
    clear hX
    replace hX1 := hide hX1
    replace hX2 := hide hX2
    go_enter Tryz.func65, Tryz.ntmps65
    go_wp2_with fail
    go_loopw [2, 3, 4, 15] (fun _ _ _ iv wr => ∃ i : Nat, i ≤ n ∧ iv = .int .i64 (i : Int) ∧ (∀ (j : Nat) (c : UInt8), j < i → s[j]? = some c → nameC c.toNat) ∧ w = wr) (fun _ _ _ iv _ => n - (intOf iv).toNat)
    case atStart => exact ⟨0, by omega, rfl, fun j c hj => by omega, rfl⟩
    case round =>
      obtain ⟨i, hi, rfl, hall, rfl⟩ := hrel
      by_cases hin : i < n
      · have k1 : (i : Int) < (n : Int) := by omega
        have k2 : (0 : Int) ≤ (i : Int) := by omega
        obtain ⟨c, hc⟩ : ∃ c, s[i]? = some c := ⟨_, List.getElem?_eq_getElem (by omega)⟩
        have hks2 : i < (str s).size := by omega
        have ek := str_get s i c hc hks2
        have wk1 : IntKind.i64.wrap ((i : Int) + 1) = ((i + 1 : Nat) : Int) := by rw [wraps62 _ (by omega) (by omega)]; omega
        obtain ⟨v, hv⟩ : ∃ v, c.toNat = v := ⟨_, rfl⟩
        have hv255 : v ≤ 255 := by rw [← hv]; have := c.toNat_lt; omega
        by_cases hg : nameC v
        · have hall2 : ∀ (j : Nat) (c : UInt8), j < i + 1 → s[j]? = some c → nameC c.toNat := by
            intro j d hj hd
            by_cases hji : j = i
            · subst hji
              obtain rfl := Option.some.inj (hc.symm.trans hd)
              rw [hv]; exact hg
            · exact hall j d (by omega) hd
          clear hall hc
          unfold nameC at hg
          replace hall2 := hide hall2
          go_wp2_with fail
          all_goals first | (exfalso; omega) | exact ⟨⟨i + 1, by omega, by first | rfl | go_num, hall2.out, by first | rfl | trivial⟩, by simp only [intOf]; omega⟩ | (trace_state; sorry)
        · have hXf := hX1.out i c hc (by rw [hv]; exact hg)
          clear hall hc
          unfold nameC at hg
          replace hXf := hide hXf
          go_wp2_with fail
          all_goals first | (exfalso; omega) | (go_ret; exact ⟨by rw [hXf.out]; rfl, rfl⟩) | (trace_state; sorry)
      · obtain rfl : i = n := by omega
        have hlt : ((i : Int) < (i : Int)) = False := by simp
        have hXn := hX2.out (fun j c hd => hall j c (by have := (List.getElem?_eq_some_iff.1 hd).1; omega) hd)
        clear hall
        replace hXn := hide hXn
        go_wp2_with fail
        go_ret
        exact ⟨by rw [hXn.out]; rfl, rfl⟩
  · have hXf : X = false := by
      rw [← hX]
      unfold nameF
      rw [decide_eq_false hlen, Bool.false_and]
    clear hX
    replace hXf := hide hXf
    by_cases h1 : s.length < 1
    · have t1 : (s.length : Int) < 1 := by omega
      go_enter Tryz.func65, Tryz.ntmps65
      go_wp2_with fail
      go_ret
      exact ⟨by rw [hXf.out]; rfl, rfl⟩
    · have t1 : ¬ (s.length : Int) < 1 := by omega
      have t2 : (32 : Int) < (s.length : Int) := by omega
      go_enter Tryz.func65, Tryz.ntmps65
      go_wp2_with fail
      go_ret
      exact ⟨by rw [hXf.out]; rfl, rfl⟩
end Tree16
end Go.Proofs.YtcpokkkdmenmgaaGreatDoor
/- conf, plain: what the law's own examples are read as. No condition. -/
namespace Go.Proofs.YtcpokkkdmenmgaaGreatDoor
open Go.RowKit Go.ChangeShapes Go.WideShapes Go.ChangeAt Go.Deep
namespace Conf18
open Addr05
/-- factor 99 -/
def exA : List UInt8 := [102, 97, 99, 116, 111, 114, 32, 57, 57]
def exB : List UInt8 := [108, 101, 118, 101, 108, 32, 97, 10, 122, 111, 110, 101, 32, 98, 32, 97, 10, 114, 97, 99, 107, 32, 99, 32, 98, 32, 55, 10, 104, 111, 115, 116, 32, 100, 32, 99, 32, 53, 32, 49, 46, 50, 46, 51, 46, 52]
theorem exA_is : (match confF exA with | .error p => decide (p.1 = 1 ∧ p.2 = 5) | .ok _ => false) = true := by kernel_rfl
theorem exB_is : (match confF exB with | .error _ => false | .ok c => decide (c.nodes.length = 4 ∧ (c.nodes.getD 3 ⟨[], 0, 0, 0, zA⟩).above = 2 ∧ c.factor = 140)) = true := by kernel_rfl
end Conf18
end Go.Proofs.YtcpokkkdmenmgaaGreatDoor
/- pfx: the law's awake. Condition: the cell of bytealg.MaxLen. -/
namespace Go.Proofs.YtcpokkkdmenmgaaGreatDoor
open Go.RowKit Go.ChangeShapes Go.WideShapes Go.ChangeAt Go.Deep
namespace Addr05
theorem pparse1 (w : World) (hm : MaxAt w) : Calls Tryz.prog 64 #[.string ⟨#[49, 48, 46, 48, 46, 48, 46, 48, 47, 56]⟩] w fun e w' => e = .returned (.tuple #[.agg #[.bool false, .int .u64 0, .int .u64 167772160, .int .i64 8], .int .i64 0]) ∧ Below w.heap.size w w' := by
  have h := pParse_any [49, 48, 46, 48, 46, 48, 46, 48, 47, 56] (by decide) w hm
  rw [show pfxF [49, 48, 46, 48, 46, 48, 46, 48, 47, 56] = some (⟨false, 0, 167772160⟩, 8) by kernel_rfl] at h
  exact h
theorem pparse2 (w : World) (hm : MaxAt w) : Calls Tryz.prog 64 #[.string ⟨#[49, 48, 46, 48, 46, 48, 46, 49, 47, 56]⟩] w fun e w' => e = .returned (.tuple #[.agg #[.bool false, .int .u64 0, .int .u64 0, .int .i64 0], .int .i64 18]) ∧ Below w.heap.size w w' := by
  have h := pParse_any [49, 48, 46, 48, 46, 48, 46, 49, 47, 56] (by decide) w hm
  rw [show pfxF [49, 48, 46, 48, 46, 48, 46, 49, 47, 56] = none by kernel_rfl] at h
  exact h
end Addr05
end Go.Proofs.YtcpokkkdmenmgaaGreatDoor
/- pfx: the law's right, and has. Conditions: numbers of 64 bits. -/
namespace Go.Proofs.YtcpokkkdmenmgaaGreatDoor
open Go.RowKit Go.ChangeShapes Go.WideShapes Go.ChangeAt Go.Deep
namespace Addr05
theorem ints_ptr {w : World} {B n : Nat} {A : Option Addr} {xs : List Int} (h : IsV w B 1 A n (xs.map (Value.int .i64))) (hn : 0 < n) : ∃ b off, A = some ⟨b, off, none⟩ ∧ b < B ∧ ∀ j x, xs[j]? = some x → w.cell? ⟨b, off + j, none⟩ = some (.int .i64 x) := by
  have hl : xs.length = n := by simpa using h.1
  obtain ⟨b, off, e, hb, hc⟩ := h.2 (by omega)
  refine ⟨b, off, e, hb, fun j x hj => ?_⟩
  obtain ⟨hj', rfl⟩ := List.getElem?_eq_some_iff.1 hj
  have := hc j (by rw [List.length_map]; exact hj')
  rw [this]
  simp
theorem rightP_bits (a : Adr) (ho : a.ok) (hr : a.right) (k : Nat) (h : k ≤ a.w) : a.rightP k = true ↔ ∀ j, k ≤ j → j < a.w → a.bit j = 0 := by
  unfold Adr.rightP
  rw [decide_eq_true_eq, ← a.mask_eq ho hr k h]
  exact ⟨fun h => h.2.2, fun h' => ⟨hr, h, h'⟩⟩
end Addr05
end Go.Proofs.YtcpokkkdmenmgaaGreatDoor
/- pfx: Has, and the law's has. Conditions: numbers of 64 bits. -/
namespace Go.Proofs.YtcpokkkdmenmgaaGreatDoor
open Go.RowKit Go.ChangeShapes Go.WideShapes Go.ChangeAt Go.Deep
namespace Addr05
/-- Has an address a prefix? -/
def hasP (p : Adr) (i : Int) (a : Adr) : Bool := rightP p i && (a.v6 == p.v6) && decide (a.mask (clampN a i) = p)
theorem has_no1 (p : Adr) (i : Int) (a : Adr) (h : rightP p i = false) : hasP p i a = false := by unfold hasP; rw [h]; rfl
theorem has_no2 (p : Adr) (i : Int) (a : Adr) (h : (a.v6 == p.v6) = false) : hasP p i a = false := by unfold hasP; rw [h]; simp
theorem has_is (p : Adr) (i : Int) (a : Adr) (h1 : rightP p i = true) (h2 : (a.v6 == p.v6) = true) : hasP p i a = decide (a.mask (clampN a i) = p) := by unfold hasP; rw [h1, h2]; rfl
theorem rightP_facts (p : Adr) (k : Nat) (h : rightP p (k : Int) = true) : p.right ∧ k ≤ p.w ∧ p.mask k = p := by
  rw [rightP_nat] at h
  exact rightP_w p k h
theorem has_bits (p : Adr) (k : Nat) (a : Adr) (hp : p.ok) (ha : a.ok) (har : a.right) (h1 : rightP p (k : Int) = true) (h2 : (a.v6 == p.v6) = true) : hasP p (k : Int) a = true ↔ ∀ j, j < k → p.bit j = a.bit j := by
  obtain ⟨hr, hk, hm⟩ := rightP_facts p k h1
  have h6 : a.v6 = p.v6 := by simpa using h2
  have hw : a.w = p.w := by unfold Adr.w; rw [h6]
  have e : clampN a (k : Int) = k := by unfold clampN; omega
  rw [has_is p _ a h1 h2, decide_eq_true_eq, e]
  exact a.mask_eq2 p ha har hp hr h6 k (by omega) hm
end Addr05
end Go.Proofs.YtcpokkkdmenmgaaGreatDoor
/- pfx: the law's has. Conditions: numbers of 64 bits, an address that may be. -/
namespace Go.Proofs.YtcpokkkdmenmgaaGreatDoor
open Go.RowKit Go.ChangeShapes Go.WideShapes Go.ChangeAt Go.Deep
namespace Addr05
end Addr05
end Go.Proofs.YtcpokkkdmenmgaaGreatDoor
/- pfx: a trie in memory, by the paths of its nodes. No condition. -/
namespace Go.Proofs.YtcpokkkdmenmgaaGreatDoor
open Go.RowKit Go.ChangeShapes Go.WideShapes Go.ChangeAt Go.Deep
namespace Addr05
abbrev Nodes := List Nat → Option Addr
/-- The node at place a with path p: its cells. -/
def NodeIs (w : World) (N : Nodes) (M : Keys) (p : List Nat) (a : Addr) : Prop :=
  a.spot = none ∧ ∃ cs t, w.heap[a.block]? = some (.cells cs t (0, 0)) ∧ a.off + 4 ≤ cs.size ∧
    cs[a.off]? = some (.pointer (N (p ++ [0]))) ∧ cs[a.off + 1]? = some (.pointer (N (p ++ [1]))) ∧ cs[a.off + 2]? = some (.int .i64 ((M p).getD 0)) ∧ cs[a.off + 3]? = some (.bool (M p).isSome)
/-- Is a block one of the trie's? -/
def isNode (N : Nodes) (k : Nat) : Prop := ∃ p a, N p = some a ∧ a.block = k
theorem NodeIs.on {w w' : World} {N : Nodes} {M : Keys} {p : List Nat} {a : Addr} (h : NodeIs w N M p a) (e : w'.heap[a.block]? = w.heap[a.block]?) : NodeIs w' N M p a := by
  obtain ⟨h1, cs, t, h2, h3⟩ := h
  exact ⟨h1, cs, t, e.trans h2, h3⟩
theorem NodeIs.lt {w : World} {N : Nodes} {M : Keys} {p : List Nat} {a : Addr} (h : NodeIs w N M p a) : a.block < w.heap.size := by
  obtain ⟨-, cs, t, h2, -⟩ := h
  rcases Nat.lt_or_ge a.block w.heap.size with h | h
  · exact h
  · rw [Array.getElem?_eq_none h] at h2
    cases h2
theorem NodeIs.next {w : World} {N : Nodes} {M : Keys} {p : List Nat} {a : Addr} (h : NodeIs w N M p a) {b : Nat} (hb : b < 2) : w.cell? ⟨a.block, a.off + b, none⟩ = some (.pointer (N (p ++ [b]))) := by
  obtain ⟨-, cs, t, h2, -, h4, h5, -⟩ := h
  rw [blk_cell h2]
  have : b = 0 ∨ b = 1 := by omega
  rcases this with rfl | rfl
  · exact h4
  · exact h5
theorem NodeIs.val {w : World} {N : Nodes} {M : Keys} {p : List Nat} {a : Addr} (h : NodeIs w N M p a) : w.cell? ⟨a.block, a.off + 2, none⟩ = some (.int .i64 ((M p).getD 0)) ∧ w.cell? ⟨a.block, a.off + 3, none⟩ = some (.bool (M p).isSome) := by
  obtain ⟨-, cs, t, h2, -, -, -, h6, h7⟩ := h
  rw [blk_cell h2, blk_cell h2]
  exact ⟨h6, h7⟩
theorem NodeIs.free {w : World} {N : Nodes} {M : Keys} {p : List Nat} {a : Addr} (h : NodeIs w N M p a) (o : Nat) : w.frozen? ⟨a.block, o, none⟩ = false := by
  obtain ⟨-, cs, t, h2, -⟩ := h
  rw [blk_free h2]
def addN (N : Nodes) (q : List Nat) (c : Addr) : Nodes := fun r => if r = q then some c else N r
theorem snoc_inj {p q : List Nat} {b c : Nat} (h : p ++ [b] = q ++ [c]) : p = q ∧ b = c := by
  have := List.append_inj' h rfl
  exact ⟨this.1, by simpa using this.2⟩
/-- A node's cells, where one cell of another node, or of its own, is stored. -/
theorem set_at {w : World} {k o : Nat} {u : Value} {cs : Array Value} {t : TypeId} (h : w.heap[k]? = some (.cells cs t (0, 0))) :
    ∃ w', w.setCell ⟨k, o, none⟩ u = w' ∧ w'.heap[k]? = some (.cells (cs.setIfInBounds o u) t (0, 0)) ∧ w.grownBy w' (some k) := store_cell h o u
end Addr05
end Go.Proofs.YtcpokkkdmenmgaaGreatDoor
/- pfx: Trie: top, Put, Len. Conditions: numbers of 64 bits, at most 2^40 prefixes. -/
namespace Go.Proofs.YtcpokkkdmenmgaaGreatDoor
open Go.RowKit Go.ChangeShapes Go.WideShapes Go.ChangeAt Go.Deep
namespace Addr05
def vbit (v6 : Bool) : Nat := if v6 then 1 else 0
theorem vbit_lt (v6 : Bool) : vbit v6 < 2 := by unfold vbit; split <;> omega
/-- The path of an address's first bits. -/
def pkey (a : Adr) (k : Nat) : List Nat := vbit a.v6 :: (List.range k).map a.bit
theorem pkey_succ (a : Adr) (k : Nat) : pkey a (k + 1) = pkey a k ++ [a.bit k] := by
  unfold pkey
  rw [List.range_succ, List.map_append]
  rfl
theorem bit_lt (a : Adr) (k : Nat) : a.bit k < 2 := by
  unfold Adr.bit
  repeat' split
  all_goals omega
end Addr05
end Go.Proofs.YtcpokkkdmenmgaaGreatDoor
/- pfx: Trie: Find. Conditions: numbers of 64 bits. -/
namespace Go.Proofs.YtcpokkkdmenmgaaGreatDoor
open Go.RowKit Go.ChangeShapes Go.WideShapes Go.ChangeAt Go.Deep
namespace Addr05
/-- The last value among the first so many. -/
def best (m : Nat → Option Int) : Nat → Option (Int × Nat)
  | 0 => none
  | i + 1 => match m i with
    | some v => some (v, i)
    | none => best m i
theorem best_none (m : Nat → Option Int) (i : Nat) : ∀ d, (∀ j, i ≤ j → m j = none) → best m (i + d) = best m i
  | 0, _ => rfl
  | d + 1, h => by
    rw [← Nat.add_assoc, best, h (i + d) (by omega)]
    exact best_none m i d h
def fV (r : Option (Int × Nat)) : Int := match r with | none => 0 | some p => p.1
def fN (r : Option (Int × Nat)) : Int := match r with | none => 0 | some p => (p.2 : Int)
end Addr05
end Go.Proofs.YtcpokkkdmenmgaaGreatDoor
/- conf, plain: what a configuration that was read holds: addresses that are numbers of 64 bits, and names no longer than the text. No condition. -/
namespace Go.Proofs.YtcpokkkdmenmgaaGreatDoor
open Go.RowKit Go.ChangeShapes Go.WideShapes Go.ChangeAt Go.Deep
namespace Conf18
open Addr05 (Adr parseF pfxF parse_some pfx_some splitL)
structure Cfg.good (c : Cfg) (M : Nat) : Prop where
  nodes : ∀ n ∈ c.nodes, n.a.ok ∧ n.name.length ≤ M
  vips : ∀ v ∈ c.vips, v.a.ok
  views : ∀ v ∈ c.views, v.a.ok
  s0 : c.s0.ok
  s1 : c.s1.ok
theorem zA_ok : zA.ok := by unfold Adr.ok; decide
theorem startC_good (M : Nat) : startC.good M := ⟨(fun n h => by simp [startC] at h), (fun n h => by simp [startC] at h), (fun n h => by simp [startC] at h), zA_ok, zA_ok⟩
theorem wd_le {ws : List (List UInt8)} {M : Nat} (h : ∀ y ∈ ws, y.length ≤ M) (i : Nat) : (wd ws i).length ≤ M := by
  unfold wd
  rw [List.getD_eq_getElem?_getD]
  rcases e : ws[i]? with _ | y
  · exact Nat.zero_le _
  · exact h y (List.mem_of_getElem? e)
theorem lineF_good {c c' : Cfg} {ws : List (List UInt8)} {M : Nat} (h : c.good M) (hw : ∀ y ∈ ws, y.length ≤ M) (he : lineF c ws = .ok c') : c'.good M := by
  obtain ⟨h1, h2, h3, h4, h5⟩ := h
  unfold lineF at he
  split at he
  · unfold factorF at he
    repeat' split at he
    all_goals cases he
    exact ⟨h1, h2, h3, h4, h5⟩
  split at he
  · unfold domainF at he
    repeat' split at he
    all_goals cases he
    exact ⟨h1, h2, h3, h4, h5⟩
  split at he
  · unfold selfF at he
    split at he
    · cases he
    · split at he
      · cases he
      · rename_i a ha
        have ho := (parse_some _ _ ha).2.1
        by_cases hv : a.v6 = true
        · simp only [hv, if_true] at he
          repeat' split at he
          all_goals cases he
          exact ⟨h1, h2, h3, h4, ho⟩
        · simp only [hv] at he
          repeat' split at he
          all_goals cases he
          all_goals first
            | exact ⟨h1, h2, h3, ho, h5⟩
            | exact absurd ‹false = true› (by decide)
  split at he
  · unfold vipF at he
    split at he
    · cases he
    · split at he
      · cases he
      · rename_i a ha
        have ho := (parse_some _ _ ha).2.1
        repeat' split at he
        all_goals cases he
        refine ⟨h1, fun v hv => ?_, h3, h4, h5⟩
        rcases List.mem_append.1 hv with hv | hv
        · exact h2 v hv
        · rw [List.mem_singleton] at hv
          subst hv
          exact ho
  split at he
  · unfold viewF at he
    split at he
    · cases he
    · split at he
      · cases he
      · rename_i p hp
        have ho := (pfx_some _ p.1 p.2 hp).2.2
        repeat' split at he
        all_goals cases he
        refine ⟨h1, h2, fun v hv => ?_, h4, h5⟩
        rcases List.mem_append.1 hv with hv | hv
        · exact h3 v hv
        · rw [List.mem_singleton] at hv
          subst hv
          exact ho
  split at he
  · unfold nodeF at he
    split at he
    · cases he
    · split at he
      · cases he
      · split at he
        · cases he
        · split at he
          · cases he
          · rename_i a ha
            have ho : a.ok := by
              unfold nadrF at ha
              split at ha
              · cases ha
                exact zA_ok
              · exact (parse_some _ _ ha).2.1
            split at he
            · cases he
            · cases he
              refine ⟨fun v hv => ?_, h2, h3, h4, h5⟩
              rcases List.mem_append.1 hv with hv | hv
              · exact h1 v hv
              · rw [List.mem_singleton] at hv
                subst hv
                exact ⟨ho, wd_le hw 1⟩
  · cases he
theorem linesF_good {M : Nat} : ∀ (l : List (Nat × List (List UInt8))) {c c' : Cfg}, c.good M → (∀ p ∈ l, ∀ y ∈ p.2, y.length ≤ M) → linesF c l = .ok c' → c'.good M
  | [], c, c', h, _, he => by
    unfold linesF at he
    cases he
    exact h
  | x :: l, c, c', h, hw, he => by
    unfold linesF at he
    split at he
    · cases he
    · rename_i c2 h2
      exact linesF_good l (lineF_good h (hw x (by simp)) h2) (fun p hp => hw p (by simp [hp])) he
theorem confF_good {s : List UInt8} {c : Cfg} (h : confF s = .ok c) : c.good s.length := by
  unfold confF at h
  split at h
  · cases h
  · split at h
    · cases h
    · rename_i c2 h2
      cases h
      refine linesF_good _ (startC_good _) (fun p hp => ?_) h2
      exact (lnA_words (splitL 10 s) s.length (Addr05.split_part 10 s) _ p hp).2
end Conf18
end Go.Proofs.YtcpokkkdmenmgaaGreatDoor
/- wide: Mul; rate: Go. Conditions: numbers in range. -/
namespace Go.Proofs.YtcpokkkdmenmgaaGreatDoor
open Go.RowKit Go.ChangeShapes Go.WideShapes Go.ChangeAt Go.Deep
namespace Addr05
/-- What a bucket has when time has gone by. -/
def goH (e m h n t : Int) : Int := if (t - n) * e ≤ m - h then h + (t - n) * e else m
end Addr05
end Go.Proofs.YtcpokkkdmenmgaaGreatDoor
/- rate: Wait. Conditions: numbers in range. -/
namespace Go.Proofs.YtcpokkkdmenmgaaGreatDoor
open Go.RowKit Go.ChangeShapes Go.WideShapes Go.ChangeAt Go.Deep
namespace Addr05
/-- When a bucket has so many. -/
def waitF (e m h n k : Int) : Int :=
  if k < 0 ∨ m < k then -1 else if k ≤ h then n else if e = 0 then -1 else if 1099511627776 < n + (k - h - 1) / e + 1 then -1 else n + (k - h - 1) / e + 1
end Addr05
end Go.Proofs.YtcpokkkdmenmgaaGreatDoor
/- limit: none, Of. Conditions: numbers of 64 bits. -/
namespace Go.Proofs.YtcpokkkdmenmgaaGreatDoor
open Go.RowKit Go.ChangeShapes Go.WideShapes Go.ChangeAt Go.Deep
namespace Addr05
/-- What the trie finds: the mark of the longest prefix, and its bits. -/
def fnd (M : Keys) (a : Adr) : Option (Int × Nat) := if rightB a.v6 a.hi a.lo = true then best (fun j => M (pkey a j)) (a.w + 1) else none
/-- The place of the rule under which an address falls, or -1. -/
def ofL (r : Option (Int × Nat)) : Int := match r with | none => -1 | some p => p.1
theorem lt_of_blk {w : World} {g : Nat} {o : Obj} (h : w.heap[g]? = some o) : g < w.heap.size := by
  rcases Nat.lt_or_ge g w.heap.size with h1 | h1
  · exact h1
  · rw [Array.getElem?_eq_none h1] at h; cases h
end Addr05
end Go.Proofs.YtcpokkkdmenmgaaGreatDoor
/- limit: Take, Wait, Have at one bucket. Conditions: numbers in range. -/
namespace Go.Proofs.YtcpokkkdmenmgaaGreatDoor
open Go.RowKit Go.ChangeShapes Go.WideShapes Go.ChangeAt Go.Deep
namespace Addr05
end Addr05
end Go.Proofs.YtcpokkkdmenmgaaGreatDoor
/- limit: Wait, Have at one bucket. Conditions: numbers in range. -/
namespace Go.Proofs.YtcpokkkdmenmgaaGreatDoor
open Go.RowKit Go.ChangeShapes Go.WideShapes Go.ChangeAt Go.Deep
namespace Addr05
end Addr05
end Go.Proofs.YtcpokkkdmenmgaaGreatDoor
/- limit: Go. Conditions: numbers in range. -/
namespace Go.Proofs.YtcpokkkdmenmgaaGreatDoor
open Go.RowKit Go.ChangeShapes Go.WideShapes Go.ChangeAt Go.Deep
namespace Addr05
/-- A rule. -/
structure Rul where
  p : Adr
  i : Int
  e : Int
  m : Int
/-- What each bucket has and when, where those of the first i have gone on to t. -/
def goSt (R : List Rul) (H : Nat → Int) (now t : Int) (i : Nat) : Nat → Int × Int := fun k =>
  if k < i then (match R[k]? with | some r => goH r.e r.m (H k) now t | none => H k, t) else (H k, now)
theorem goSt_zero (R : List Rul) (H : Nat → Int) (now t : Int) (k : Nat) : goSt R H now t 0 k = (H k, now) := by
  unfold goSt
  rw [if_neg (by omega)]
theorem goSt_succ (R : List Rul) (H : Nat → Int) (now t : Int) (i : Nat) {r : Rul} (hr : R[i]? = some r) (k : Nat) : (if k = i then (goH r.e r.m (H i) now t, t) else goSt R H now t i k) = goSt R H now t (i + 1) k := by
  unfold goSt
  by_cases h : k = i
  · subst h
    rw [if_pos rfl, if_pos (by omega), hr]
  · rw [if_neg h]
    by_cases h2 : k < i
    · rw [if_pos h2, if_pos (by omega)]
    · rw [if_neg h2, if_neg (by omega)]
/-- What Go turns: the limits' own cells and the buckets. -/
def goneT (x : Nat) (gs : List Nat) (k : Nat) : Prop := k = x ∨ k ∈ gs
end Addr05
end Go.Proofs.YtcpokkkdmenmgaaGreatDoor
/- limit: at (the place of the rule with a prefix). Conditions: numbers of 64 bits. -/
namespace Go.Proofs.YtcpokkkdmenmgaaGreatDoor
open Go.RowKit Go.ChangeShapes Go.WideShapes Go.ChangeAt Go.Deep
section
variable {P : Program} {ops : Array Oper} {Q : Exit → Act → World → Prop} {rest : List Oper} {a : Act} {w : World}
/-- A new cell, one other value, and a struct stored into the cell. -/
theorem wpl_newm {oa om os : Oper} (hga : oa.guard = none) (hgm : om.guard = none) (hgs : os.guard = none) (T : TypeId) (zs : Array Value)
    (hal : ∀ (ρ : Operand → Value) (w : World), (execOp ρ oa).run P w = .ok (.value (.pointer (some ⟨w.heap.size, 0, none⟩))) (w.alloc (.cells zs T)))
    (d e : Nat) (hd : oa.dst = some d) (he : om.dst = some e) (u : Value) (hu : ∀ w : World, (execOp (a.put (some d) (.pointer (some ⟨w.heap.size, 0, none⟩))).eval om).run P (w.alloc (.cells zs T)) = .ok (.value u) (w.alloc (.cells zs T)))
    (y : Operand) (ho : os.op = .store T (.tmp d) y) (vs : Array Value) (hy : ∀ w : World, ((a.put (some d) (.pointer (some ⟨w.heap.size, 0, none⟩))).put (some e) u).eval y = .agg vs)
    (hdd : ∀ w : World, ((a.put (some d) (.pointer (some ⟨w.heap.size, 0, none⟩))).put (some e) u).eval (.tmp d) = .pointer (some ⟨w.heap.size, 0, none⟩))
    (hn : vs.size = zs.size) (hi : (P.info? T).map (·.size) = some vs.size) (h1 : vs.all (·.oneCell') = true)
    (h : ∀ w', w'.heap[w.heap.size]? = some (.cells vs T (0, 0)) → Below w.heap.size w w' → w.heap.size < w'.heap.size → wpList P ops Q rest (((a.put (some d) (.pointer (some ⟨w.heap.size, 0, none⟩))).put (some e) u).put os.dst undef) w') : wpList P ops Q (oa :: om :: os :: rest) a w := by
  refine Go.Great.wpList_runTo hga (some d) hd _ _ (hal _ _) ?_
  refine Go.Great.wpList_runTo hgm (some e) he _ _ (hu _) ?_
  have hb := blk_new w T zs
  refine wpl_st hgs T (.tmp d) y ho w.heap.size 0 (hdd w) vs (hy w) hb (by omega) hi h1 fun w' h2 h3 => ?_
  rw [putA_whole _ _ hn.symm] at h2
  have hs := h3.size
  simp only [World.size_alloc] at hs
  exact h w' h2 (((Below.refl _ _).alloc (Nat.le_refl _) _).trans (below_grown h3 (by simp) (by omega))) (by omega)
end
namespace Addr05
/-- A rule's cells. -/
def rulC (r : Rul) : List Value := [.bool r.p.v6, .int .u64 (r.p.hi : Int), .int .u64 (r.p.lo : Int), .int .i64 r.i, .int .i64 r.e, .int .i64 r.m]
theorem rul_one (v6 : Bool) (hi lo i e m : Int) : (#[.bool v6, .int .u64 hi, .int .u64 lo, .int .i64 i, .int .i64 e, .int .i64 m] : Array Value).all (·.oneCell') = true := all_oneCell_toArray (by
  intro v hv
  simp only [List.mem_cons, List.not_mem_nil, or_false] at hv
  rcases hv with rfl | rfl | rfl | rfl | rfl | rfl <;> rfl)
/-- The place of the first rule with a prefix, or -1. -/
def atL (rs : List Rul) (p : Adr) (i : Int) : Int := match rs.findIdx? (fun r => decide (r.p = p ∧ r.i = i)) with | some k => (k : Int) | none => -1
end Addr05
end Go.Proofs.YtcpokkkdmenmgaaGreatDoor
/- A row that lists variables, met: the wrap that keeps what they hold and the world's shape; the cell of bytealg.MaxLen. No condition. -/
namespace Go.Proofs.YtcpokkkdmenmgaaGreatDoor
open Go.RowKit Go.ChangeShapes Go.WideShapes Go.ChangeAt Go.Deep
theorem returns_laid {H : Type} {enc : TypeId × Value → H} {a : Assume} {C : Checked} {os : Os} {f : FuncId} {fn : Func} {s : ChangeSpec} {conds : List PathCond} {apart fresh handsOn again : Bool} {X : World → Array Value → Prop}
    (hX : ∀ (w w' : World) (args : Array Value), w.heap = w'.heap → X w args → X w' args)
    (own : ownKnob C.prog.godebug = none) (started : os.Started) (noInit : C.prog.inits.idxOf? f = none) (hfn : C.prog.funcs[f]? = some fn)
    (witness : ∃ (w : World) (tape : Tape) (i : Input), w.os = os ∧ (w.forCall tape i).Shaped C.prog ∧ i.vars = [] ∧ Input.okWide C.prog (w.forCall tape i) .any w.heap.size f i ∧
      ((s.pre enc C.prog fn conds apart (w.forCall tape i).memory i.args ∧ X (w.forCall tape i).memory i.args) ∧ sizedMet enc C.prog fn (OpenSpec.ofChange s) apart (w.forCall tape i).memory i.args) ∧ a.holds C.prog (lone (Frame.enter C.prog f i.args .normal) [] (w.forCall tape i)))
    (contract : ∀ (W : World) (base : Nat) (args : Array Value) (ds gs : List (DataW H)) (before : List MemPlace),
      (∀ (j : Nat) t v, fn.params[j]? = some t → args[j]? = some v → Value.okWide C.prog W .any base t v) →
      DataW.Whole enc C.prog fn.params.toList s.vars apart W args.toList ds gs before →
      conds.all (PathCond.test C.prog ⟨fn.params.toList, ds, s.plain.varTypes C.prog, gs⟩) = true →
      X W args → W.ShapedOpen C.prog →
      Calls C.prog f args W fun e W' => ∃ v, e = .returned v ∧ s.post enc C.prog fn apart fresh handsOn again W args v W') :
    ReturnsInHanded a C os f .any (fun w args => (s.pre enc C.prog fn conds apart w args ∧ X w args) ∧ sizedMet enc C.prog fn (OpenSpec.ofChange s) apart w args) (s.post enc C.prog fn apart fresh handsOn again) := by
  refine returnsInHanded_of_calls own started noInit witness ?_
  intro w tape i _ hsh _ hok hpre _
  obtain ⟨_, _, _, fn', hfn', _, _, _, _, hval⟩ := hok
  have e : fn' = fn := Option.some.inj (hfn'.symm.trans hfn)
  subst e
  obtain ⟨⟨⟨ds, gs, before, hw, hc⟩, hx⟩, _⟩ := hpre
  have hw' := DataW.Whole.of_heap (w' := w.forCall tape i) (by rfl) hw
  refine (contract (w.forCall tape i) w.heap.size i.args ds gs before hval hw' hc (hX _ _ _ (by rfl) hx) hsh).mono fun e W' ⟨v, he, hp⟩ => ?_
  subst he
  exact ChangeSpec.post_blind hp
theorem maxAt_of {w : World} (h : w.ShapedOpen Tryz.prog) : Addr05.MaxAt w :=
  cell_of_shapedOpen_int (t := 3) (zero := #[.int .i64 0]) h (of_decide_eq_true (by kernel_rfl)) (by kernel_rfl) rfl (by kernel_rfl) (by kernel_rfl) Tryz.underlying3
end Go.Proofs.YtcpokkkdmenmgaaGreatDoor
/- Maps of the call's own, with texts as keys: of numbers (a part of a function), of Bools. Condition: fewer than 2^40 entries. -/
namespace Go.Proofs.YtcpokkkdmenmgaaGreatDoor
open Go.RowKit Go.ChangeShapes Go.WideShapes Go.ChangeAt Go.Deep
open Go.Maps (Keyed)
namespace Conf18
theorem kLaw : Keyed Tryz.prog 9 := Go.Maps.string_keyed Tryz.underlying9
theorem zeroI (w : World) : (zeroValue 3).run Tryz.prog w = .ok (.int .i64 0) w := by kernel_rfl
theorem zeroB (w : World) : (zeroValue 4).run Tryz.prog w = .ok (.bool false) w := by kernel_rfl
abbrev kl (s : List UInt8) : Lit := .string s
theorem keyK (s : List UInt8) (h : s.length ≤ 1099511627776) : keyOf Tryz.prog 9 (.string (str s)) = some (kl s) := Go.WideMaps.keyOf_string_mk Tryz.underlying9 (by rw [show (str s).size = s.length from List.size_toArray]; unfold maxLen; omega)
/-- Block B is a map of at most n entries that says what f says. -/
def MapI (w : World) (B n : Nat) (f : List UInt8 → Option Nat) : Prop :=
  ∃ D : DataW Unit, w.ownsMap Tryz.prog 9 (plainElem Tryz.prog 3) B n D ∧ ∀ s, Maps.has D (kl s) = (f s).isSome ∧ ∀ v, f s = some v → ∀ z, D.atKey (kl s) z = .lit (.int .i64 (v : Int))
def MapB (w : World) (B n : Nat) (g : List UInt8 → Bool) : Prop :=
  ∃ D : DataW Unit, w.ownsMap Tryz.prog 9 (plainElem Tryz.prog 4) B n D ∧ ∀ s, D.atKey (kl s) (.lit (.bool false)) = .lit (.bool (g s))
theorem MapI.made (w : World) : MapI (w.alloc (.map #[] 0)) w.heap.size 0 (fun _ => none) := ⟨.map [], World.ownsMap_made _ _ _ _, fun s => ⟨rfl, fun v h => by cases h⟩⟩
theorem MapB.made (w : World) : MapB (w.alloc (.map #[] 0)) w.heap.size 0 (fun _ => false) := ⟨.map [], World.ownsMap_made _ _ _ _, fun _s => rfl⟩
theorem MapI.kept {w w' : World} {row : Option Nat} {B n : Nat} {f : List UInt8 → Option Nat} (h : MapI w B n f) (hg : w.grownBy w' row) (hne : some B ≠ row) : MapI w' B n f := by
  obtain ⟨D, h1, h2⟩ := h
  exact ⟨D, h1.kept hg hne, h2⟩
theorem MapB.kept {w w' : World} {row : Option Nat} {B n : Nat} {g : List UInt8 → Bool} (h : MapB w B n g) (hg : w.grownBy w' row) (hne : some B ≠ row) : MapB w' B n g := by
  obtain ⟨D, h1, h2⟩ := h
  exact ⟨D, h1.kept hg hne, h2⟩
theorem MapI.blk {w : World} {B n : Nat} {f : List UInt8 → Option Nat} (h : MapI w B n f) : ∃ es k, w.heap[B]? = some (.map es k) := by
  obtain ⟨D, ⟨es, k, h1, _⟩, _⟩ := h
  exact ⟨es, k, h1⟩
theorem MapB.blk {w : World} {B n : Nat} {g : List UInt8 → Bool} (h : MapB w B n g) : ∃ es k, w.heap[B]? = some (.map es k) := by
  obtain ⟨D, ⟨es, k, h1, _⟩, _⟩ := h
  exact ⟨es, k, h1⟩
theorem plainBool_inv' {P : Program} {e : TypeId} (he : P.underlying e = some .bool) {v : Value} {z : DataW Unit × List MemPlace} (h : plainElem P e v = some z) : ∃ x, v = .bool x ∧ z = (.lit (.bool x), []) := by
  unfold plainElem at h
  rw [he] at h
  cases v <;> simp at h
  exact ⟨_, rfl, h.symm⟩
theorem plainBool_inv {v : Value} {z : DataW Unit × List MemPlace} (h : plainElem Tryz.prog 4 v = some z) : ∃ x, v = .bool x ∧ z = (.lit (.bool x), []) := plainBool_inv' Tryz.underlying4 h
theorem MapI.look {w : World} {B n : Nat} {f : List UInt8 → Option Nat} (h : MapI w B n f) (s : List UInt8) (hs : s.length ≤ 1099511627776) :
    (Instr.lookup 54 (.map (some B)) (.string (str s)) true).run Tryz.prog w = .ok (.tuple #[.int .i64 (((f s).getD 0 : Nat) : Int), .bool (f s).isSome]) w := by
  obtain ⟨D, h1, h2⟩ := h
  obtain ⟨v, ps, hrun, hv⟩ := h1.look_ok kLaw Tryz.underlying54 (zeroI w) (plainElem_int Tryz.underlying3 (a := 0) (by decide)) (keyK s hs)
  obtain ⟨c, rfl, hc, _⟩ := plainElem_int_inv Tryz.underlying3 hv
  rw [hrun, (h2 s).1]
  have hc1 := congrArg Prod.fst hc
  dsimp only at hc1
  have : c = (((f s).getD 0 : Nat) : Int) := by
    rcases hf : f s with _ | u
    · have h3 := Maps.atKey_of_not_has (D := D) (k := kl s) (by rw [(h2 s).1, hf]; rfl) (.lit (.int .i64 0))
      rw [h3] at hc1
      simpa using hc1.symm
    · rw [(h2 s).2 u hf] at hc1
      simpa using hc1.symm
  rw [this]
section
variable {w : World} {ops : Array Oper} {rest : List Oper} {o : Oper} {a : Act} {Q : Exit → Act → World → Prop}
theorem wpl_lookB (hg : o.guard = none) (m x : Operand) (hop : o.op = Op.lookup 96 m x false) (B n : Nat) (g : List UInt8 → Bool) (s : List UInt8) (hs : s.length ≤ 1099511627776)
    (hm : a.eval m = .map (some B)) (hx : a.eval x = .string (str s)) (hB : MapB w B n g) (hK : wpList Tryz.prog ops Q rest (a.put o.dst (.bool (g s))) w) : wpList Tryz.prog ops Q (o :: rest) a w := by
  obtain ⟨D, h1, h2⟩ := hB
  refine wpList_plain hg fun K' hK' => ?_
  obtain ⟨v, ps, hrun, hv⟩ := h1.lookup kLaw Tryz.underlying96 (zeroB w) (plainElem_bool Tryz.underlying4 false) (keyK s hs)
  obtain ⟨b, rfl, hc⟩ := plainBool_inv hv
  rw [h2 s] at hc
  have : g s = b := by have h3 := hc; simp at h3; exact h3.1
  subst this
  unfold Oper.wp
  simp [execOp, hop, hm, hx, hrun, Result.andThen]
  exact hK' _ _ hK
theorem wpl_lookI (hg : o.guard = none) (m x : Operand) (hop : o.op = Op.lookup 54 m x true) (B n : Nat) (f : List UInt8 → Option Nat) (s : List UInt8) (hs : s.length ≤ 1099511627776)
    (hm : a.eval m = .map (some B)) (hx : a.eval x = .string (str s)) (hB : MapI w B n f) (hK : wpList Tryz.prog ops Q rest (a.put o.dst (.tuple #[.int .i64 (((f s).getD 0 : Nat) : Int), .bool (f s).isSome])) w) : wpList Tryz.prog ops Q (o :: rest) a w := by
  refine wpList_plain hg fun K' hK' => ?_
  unfold Oper.wp
  simp [execOp, hop, hm, hx, hB.look s hs, Result.andThen]
  exact hK' _ _ hK
theorem wp_putB (m x u : Operand) (hop : o.op = Op.mapUpdate 96 m x u) {K : Act → World → Prop} (B n : Nat) (g : List UInt8 → Bool) (s : List UInt8) (b : Bool) (hs : s.length ≤ 1099511627776) (hn : n < 1099511627776)
    (hm : a.eval m = .map (some B)) (hx : a.eval x = .string (str s)) (hu : a.eval u = .bool b) (hB : MapB w B n g) (hK : ∀ w', MapB w' B (n + 1) (fun y => if y = s then b else g y) → w.grownBy w' (some B) → ∀ v, K (a.put o.dst v) w') : o.wp Tryz.prog a w K Q := by
  obtain ⟨D, h1, h2⟩ := hB
  obtain ⟨w', hrun, h3, h4⟩ := h1.update kLaw Tryz.underlying96 (by unfold maxLen; omega) (keyK s hs) (plainElem_bool Tryz.underlying4 b)
  have hM : MapB w' B (n + 1) (fun y => if y = s then b else g y) := by
    refine ⟨_, h3, fun y => ?_⟩
    by_cases e : y = s
    · subst e
      rw [Maps.atKey_put_same h1.isMap (by trivial)]; simp
    · rw [Maps.atKey_put_other (by intro e2; exact e (by simpa [kl] using e2)), h2]; simp [e]
  unfold Oper.wp
  simp [execOp, hop, hm, hx, hu, hrun, Result.andThen]
  exact hK w' hM h4 _
theorem wp_putI (m x u : Operand) (hop : o.op = Op.mapUpdate 54 m x u) {K : Act → World → Prop} (B n : Nat) (f : List UInt8 → Option Nat) (s : List UInt8) (v : Nat) (hs : s.length ≤ 1099511627776) (hn : n < 1099511627776) (hv : v < 1099511627776)
    (hm : a.eval m = .map (some B)) (hx : a.eval x = .string (str s)) (hu : a.eval u = .int .i64 (v : Int)) (hB : MapI w B n f) (hK : ∀ w', MapI w' B (n + 1) (fun y => if y = s then some v else f y) → w.grownBy w' (some B) → ∀ v, K (a.put o.dst v) w') : o.wp Tryz.prog a w K Q := by
  obtain ⟨D, h1, h2⟩ := hB
  obtain ⟨w', hrun, h3, h4⟩ := h1.update kLaw Tryz.underlying54 (by unfold maxLen; omega) (keyK s hs) (plainElem_int Tryz.underlying3 (a := (v : Int)) (WalkArith.wf_i64 (by omega)))
  have hM : MapI w' B (n + 1) (fun y => if y = s then some v else f y) := by
    refine ⟨_, h3, fun y => ?_⟩
    by_cases e : y = s
    · subst e
      refine ⟨?_, fun v' hv' z => ?_⟩
      · rw [Maps.has_put_same h1.isMap (by trivial)]; simp
      · have hv2 : some v = some v' := by simpa using hv'
        cases hv2
        rw [Maps.atKey_put_same h1.isMap (by trivial)]
    · have hne : kl y ≠ kl s := by intro e2; exact e (by simpa [kl] using e2)
      refine ⟨?_, fun v' hv' z => ?_⟩
      · rw [Maps.has_put_other hne, (h2 y).1]; simp [e]
      · rw [Maps.atKey_put_other hne]; exact (h2 y).2 v' (by simpa [e] using hv') z
  unfold Oper.wp
  simp [execOp, hop, hm, hx, hu, hrun, Result.andThen]
  exact hK w' hM h4 _
end
end Conf18
end Go.Proofs.YtcpokkkdmenmgaaGreatDoor
/- conf: once. No condition. -/
namespace Go.Proofs.YtcpokkkdmenmgaaGreatDoor
open Go.RowKit Go.ChangeShapes Go.WideShapes Go.ChangeAt Go.Deep
namespace Conf18
set_option maxRecDepth 20000 in
set_option maxHeartbeats 8000000 in
theorem once_any (y : List UInt8) (hy : y.length ≤ 65536) (w : World) (x mb n : Nat) (g : List UInt8 → Bool) (hn : n < 100) (hc : w.cell? ⟨x, 11, none⟩ = some (.map (some mb))) (hM : MapB w mb n g) :
    Calls Tryz.prog 60 #[.pointer (some ⟨x, 0, none⟩), .string (str y)] w fun e w' => e = .returned (.bool (!g y)) ∧ (g y = true → w' = w) ∧ (g y = false → MapB w' mb (n + 1) (fun z => if z = y then true else g z) ∧ w.grownBy w' (some mb)) := by
  obtain ⟨b, hb⟩ : ∃ b, g y = b := ⟨_, rfl⟩
  replace hM := hide hM
  go_enter Tryz.func60, Tryz.ntmps60
  go_upto_region 1 with fail
  apply wp_region_lit
  iterate 5 (refine wpList_plain rfl fun K hK => ?_; go_simp; refine hK _ _ ?_; clear hK K)
  refine wpl_lookB rfl _ _ rfl mb n g y (by omega) rfl rfl hM.out ?_
  rw [hb]
  refine wpList_nil ?_
  go_simp
  cases b
  · go_upto_region 3 with fail
    apply wp_region_lit
    iterate 5 (refine wpList_plain rfl fun K hK => ?_; go_simp; refine hK _ _ ?_; clear hK K)
    refine wpList_plain rfl fun K hK => ?_
    refine wp_putB _ _ _ rfl mb n g y true (by omega) (by omega) rfl rfl rfl hM.out fun w2 h1 h2 v => hK _ _ ?_
    clear hK K
    replace h1 := hide h1
    replace h2 := hide h2
    refine wpList_nil ?_
    go_simp
    go_wp2_with fail
    go_ret
    exact ⟨by rw [hb]; rfl, fun h => (by rw [hb] at h; cases h), fun _ => ⟨h1.out, h2.out⟩⟩
  · go_wp2_with fail
    go_ret
    exact ⟨by rw [hb]; rfl, fun _ => rfl, fun h => (by rw [hb] at h; cases h)⟩
end Conf18
end Go.Proofs.YtcpokkkdmenmgaaGreatDoor
