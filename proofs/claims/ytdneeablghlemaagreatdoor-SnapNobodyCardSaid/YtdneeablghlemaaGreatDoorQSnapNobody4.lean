/- slices.Clone at bytes: a row of the call's own with the same bytes. And words on bytes as strings. Conditions: at most 2^40 bytes. -/
import Derived.Test.YtdneeablghlemaaGreatDoorQSnapNobody2
import Derived.Test.YtdneeablghlemaaGreatDoorQSnapNobody3
import Derived.Test.YtdneeablghlemaaGreatDoorQSnapNobody1
import Derived.Deep.DeepCutAuto
import Derived.HandedShaped
import Derived.LaidMore
import Derived.Laws.OwnMore
import Derived.Lay
import Derived.Lib.LazyBuf
import Derived.OpenShut
import Derived.Shelf.Vars
import Derived.Stop.Joined
import Derived.WalkSpells
namespace Go.Proofs.YtdneeablghlemaaGreatDoor
open Go.RowKit Go.ChangeShapes Go.WideShapes Go.ChangeAt Go.Deep
def str (xs : List UInt8) : ByteArray := ⟨xs.toArray⟩
theorem IsB.str {w : World} {B n : Nat} {A : Option Addr} {xs : List UInt8} (h : IsB w B A n xs) (c : Nat) : (convert 40 9 (.slice A n c)).run Tryz.prog w = .ok (.string (str xs)) w := by
  rcases A with _ | ad
  · have h0 : n = 0 := by
      rcases Nat.eq_zero_or_pos n with h0 | h0
      · exact h0
      · obtain ⟨_, _, e, _⟩ := h.2 h0
        cases e
    have hx : xs = [] := List.eq_nil_of_length_eq_zero (by rw [h.1, h0])
    subst hx
    exact run_convert_bytes_nil w 40 5 Tryz.underlying40 Tryz.underlying5 n c 9 Tryz.underlying9
  · have hn := h.1
    subst hn
    refine run_convert_bytes_back w 40 9 5 ad c xs Tryz.underlying40 Tryz.underlying5 Tryz.underlying9 fun j hj => ?_
    obtain ⟨b, off, e, _, hc⟩ := h.2 (by omega)
    cases e
    rw [show (Addr.add ⟨b, off, none⟩ j : Addr) = ⟨b, off + j, none⟩ by unfold Addr.add; split <;> simp_all]
    exact hc j hj
theorem str_inj {xs ys : List UInt8} (h : str xs = str ys) : xs = ys := by
  have h1 : (str xs).data.toList = (str ys).data.toList := by rw [h]
  simpa [str] using h1
set_option maxHeartbeats 1000000 in
theorem clone_any (A : Option Addr) (n c : Nat) (xs : List UInt8) (w : World) (hx : IsB w w.heap.size A n xs) (hn : n ≤ 1099511627776) :
    Calls Tryz.prog 241 #[.slice A n c] w fun e w' => ∃ v, e = .returned v ∧ OwnB w' w.heap.size v xs ∧ Below w.heap.size w w' := by
  have hnil := fun W => Lib.run_eql_slice_nil (P := Tryz.prog) W 40 5 A n c 0 0 Tryz.underlying40
  rcases A with _ | ad
  · have h0 : n = 0 := by
      rcases Nat.eq_zero_or_pos n with h0 | h0
      · exact h0
      · obtain ⟨_, _, e, _⟩ := hx.2 h0
        cases e
    obtain rfl : xs = [] := List.eq_nil_of_length_eq_zero (by rw [hx.1, h0])
    subst h0
    simp only [Option.isNone_none] at hnil
    clear hx
    go_enter Tryz.func241, Tryz.ntmps241
    go_wp2
    go_ret
    exact ⟨_, rfl, OwnB.nil _ _, Below.refl _ _⟩
  · go_enter Tryz.func241, Tryz.ntmps241
    go_wp2_with (at_builtin; refine wpl_src_b rfl (.tmp 5) (.tmp 6) rfl w.heap.size _ [] xs _ _ _ (w.heap.size + 1) rfl rfl ?_ ?_ ?_ ?_ ?_)
    · exact OwnB.empty w w.heap.size (Nat.le_refl _)
    · exact (hx.on ((Below.refl _ _).alloc (Nat.le_refl _) _)).more (by simp)
    · simp
    · simp; omega
    intro v' w' hown hb _ _
    go_wp2
    go_ret
    exact ⟨_, rfl, hown, ((Below.refl _ _).alloc (Nat.le_refl _) _).trans hb⟩
end Go.Proofs.YtdneeablghlemaaGreatDoor
/- Plain facts on bytes that are put and read again, and on the check among them. No condition. -/
namespace Go.Proofs.YtdneeablghlemaaGreatDoor
theorem beB_getD (N : Nat) : ∀ (k j : Nat), j < k → (beB N k).getD j 0 = UInt8.ofNat (N / 256 ^ (k - 1 - j))
  | 0, j, h => by omega
  | k + 1, 0, _ => by simp [beB]
  | k + 1, j + 1, h => by
    simp only [beB, List.getD_cons_succ]
    rw [beB_getD N k j (by omega), show k + 1 - 1 - (j + 1) = k - 1 - j by omega]
theorem getD_mid (pre mid post : List UInt8) (j : Nat) (h : j < mid.length) : (pre ++ (mid ++ post)).getD (pre.length + j) 0 = mid.getD j 0 := by
  simp only [List.getD]
  rw [List.getElem?_append_right (by omega), show pre.length + j - pre.length = j by omega, List.getElem?_append_left h]
theorem beN_mid (N k : Nat) (pre post : List UInt8) (p : Nat) (hp : pre.length = p) : ∀ j, j ≤ k → beN (pre ++ (beB N k ++ post)) p j = N / 256 ^ (k - j) % 256 ^ j
  | 0, _ => by simp [beN, Nat.mod_one]
  | j + 1, h => by
    subst hp
    have ih := beN_mid N k pre post pre.length rfl j (by omega)
    rw [beN, ih, getD_mid _ _ _ _ (by rw [beB_length]; omega), beB_getD _ _ _ (by omega), UInt8.toNat_ofNat']
    rw [show k - 1 - j = k - (j + 1) by omega]
    have e1 : N / 256 ^ (k - j) = N / 256 ^ (k - (j + 1)) / 256 := by
      rw [show k - j = (k - (j + 1)) + 1 by omega, Nat.pow_succ, Nat.div_div_eq_div_mul]
    rw [e1]
    generalize N / 256 ^ (k - (j + 1)) = M
    rw [show 256 ^ (j + 1) = 256 * 256 ^ j by rw [Nat.pow_succ, Nat.mul_comm], Nat.mod_mul]
    omega
theorem beN_put (N k : Nat) (pre post : List UInt8) (p : Nat) (hp : pre.length = p) (hN : N < 256 ^ k) : beN (pre ++ (beB N k ++ post)) p k = N := by
  rw [beN_mid N k pre post p hp k (Nat.le_refl _)]
  simp [Nat.mod_eq_of_lt hN]
namespace Sum
theorem ones_check (T : Nat) : ones (T + (65535 - ones T)) = 65535 := by
  unfold ones
  split
  · rename_i h0
    subst h0
    rfl
  · have h1 : (T - 1) % 65535 < 65535 := Nat.mod_lt _ (by omega)
    have h2 : T + (65535 - ((T - 1) % 65535 + 1)) ≠ 0 := by omega
    rw [if_neg h2]
    omega
theorem tot_two (c : Nat) (hc : c ≤ 65535) : tot false (beB c 2) = c := by
  simp only [beB, tot, UInt8.toNat_ofNat']
  simp
  omega
/-- The sum behind a check that is set where two zeros stood, at an even place. -/
theorem tot_set (pre xs : List UInt8) (p c : Nat) (hc : c ≤ 65535) (hp : p + 2 ≤ xs.length) (h0 : (xs.drop p).take 2 = [0, 0]) (he : (pre.length + p) % 2 = 0) : tot false (pre ++ setB xs p (beB c 2)) = tot false (pre ++ xs) + c := by
  have hx : xs = xs.take p ++ ([0, 0] ++ xs.drop (p + 2)) := by
    rw [← h0, ← List.drop_drop, List.take_append_drop, List.take_append_drop]
  have hl : (xs.take p).length = p := by rw [List.length_take]; omega
  conv => rhs; rw [hx]
  unfold setB
  rw [beB_length]
  have hpar : (false ^^ decide (pre.length % 2 = 1) ^^ decide ((xs.take p).length % 2 = 1)) = false := by
    rw [hl]
    by_cases h1 : pre.length % 2 = 1 <;> by_cases h2 : p % 2 = 1 <;> simp [h1, h2] <;> omega
  rw [tot_append, tot_append, tot_append, tot_append, tot_append, tot_append, hpar, tot_two c hc]
  have e2 : tot false ([0, 0] : List UInt8) = 0 := by simp [tot]
  rw [e2, beB_length]
  simp only [List.length_cons, List.length_nil, Nat.zero_add, Nat.reduceAdd]
  omega
end Sum
end Go.Proofs.YtdneeablghlemaaGreatDoor
/- Plain: ops as bytes, and read again. No condition. -/
namespace Go.Proofs.YtdneeablghlemaaGreatDoor
namespace Snap
/-- A reader: what is left, and the first error. -/
abbrev St := List UInt8 × Int
def failS (e : Int) (s : St) : St := (s.1, if s.2 = 0 then e else s.2)
def rawS (k : Nat) (s : St) : St := if s.1.length < k then failS 2 s else if s.2 ≠ 0 then s else (s.1.drop k, 0)
def rawX (k : Nat) (s : St) : List UInt8 := if s.1.length < k then [] else if s.2 ≠ 0 then [] else s.1.take k
def numV (k : Nat) (s : St) : Nat := beN (rawX k s) 0 (rawX k s).length
structure Op where
  k : Int
  xs : List UInt8
  s : List UInt8
  h : Int
  n : Int
  up : Bool
def okOp (o : Op) : Prop := 0 ≤ o.k ∧ o.k ≤ 255 ∧ o.xs.length ≤ 65536 ∧ o.s.length ≤ 255 ∧ 0 ≤ o.h ∧ o.h < 4294967296 ∧ 0 ≤ o.n ∧ o.n < 4294967296
instance (o : Op) : Decidable (okOp o) := by unfold okOp; infer_instance
def encP (o : Op) : List UInt8 :=
  [UInt8.ofNat o.k.toNat, if o.up then 1 else 0] ++ (beB o.h.toNat 4 ++ (beB o.n.toNat 4 ++ (beB o.xs.length 4 ++ (o.xs ++ ([UInt8.ofNat o.s.length] ++ o.s)))))
def magic : List UInt8 := [68, 83, 84, 49]
def bodyL (l : List Op) : List UInt8 := (l.map encP).flatten
def encL (l : List Op) : List UInt8 := magic ++ (beB l.length 4 ++ bodyL l)
def upS (s : St) : St := if 1 < numV 1 s then failS 4 (rawS 1 s) else rawS 1 s
def lenS (s : St) : St := if 65536 < numV 4 s then failS 3 (rawS 4 s) else rawS 4 s
def getS (s : St) : St := 
  let s1 := rawS 1 s
  let s2 := upS s1
  let s3 := rawS 4 s2
  let s4 := rawS 4 s3
  let s5 := lenS s4
  let s6 := rawS (numV 4 s4) s5
  let s7 := rawS 1 s6
  rawS (numV 1 s6) s7
def getO (s : St) : Op :=
  let s1 := rawS 1 s
  let s2 := upS s1
  let s3 := rawS 4 s2
  let s4 := rawS 4 s3
  let s5 := lenS s4
  let s6 := rawS (numV 4 s4) s5
  let s7 := rawS 1 s6
  { k := numV 1 s, up := decide (numV 1 s1 = 1), h := numV 4 s2, n := numV 4 s3, xs := rawX (numV 4 s4) s5, s := rawX (numV 1 s6) s7 }
def getsS : Nat → St → St
  | 0, s => s
  | n + 1, s => if s.2 ≠ 0 then s else getsS n (getS s)
def getsL : Nat → St → List Op
  | 0, _ => []
  | n + 1, s => if s.2 ≠ 0 then [] else getO s :: getsL n (getS s)
def headS (b : List UInt8) : St := if rawX 4 (b, 0) ≠ magic then failS 4 (rawS 4 (b, 0)) else rawS 4 (b, 0)
def countS (s : St) : St := if 2048 < numV 4 s then failS 6 (rawS 4 s) else rawS 4 s
def endS (s : St) : St := if s.2 = 0 ∧ 0 < s.1.length then failS 3 s else s
def readS (b : List UInt8) : St := endS (getsS (numV 4 (headS b)) (countS (headS b)))
def readE (b : List UInt8) : Int := (readS b).2
def readL (b : List UInt8) : List Op := if readE b ≠ 0 then [] else getsL (numV 4 (headS b)) (countS (headS b))

theorem rawX_len (k : Nat) (s : St) : (rawX k s).length ≤ k := by
  unfold rawX
  split
  · simp
  · split
    · simp
    · rw [List.length_take]; omega
theorem numV_lt (k : Nat) (s : St) : numV k s < 256 ^ k := by
  have h1 := beN_lt (rawX k s) 0 (rawX k s).length
  exact Nat.lt_of_lt_of_le h1 (Nat.pow_le_pow_right (by omega) (rawX_len k s))
theorem failS_ok {e : Int} (he : e ≠ 0) {s : St} : (failS e s).2 ≠ 0 := by
  unfold failS
  simp only
  split
  · exact he
  · assumption
theorem rawS_bad {k : Nat} {s : St} (h : s.2 ≠ 0) : (rawS k s).2 ≠ 0 := by
  unfold rawS
  split
  · exact failS_ok (by omega)
  · first | exact h | (rw [if_pos h]; exact h)
theorem rawS_ok {k : Nat} {s : St} (h : (rawS k s).2 = 0) : s.2 = 0 ∧ k ≤ s.1.length ∧ rawS k s = (s.1.drop k, 0) ∧ rawX k s = s.1.take k := by
  have h0 : s.2 = 0 := Classical.byContradiction fun hn => rawS_bad hn h
  have h1 : ¬ s.1.length < k := fun hl => by
    unfold rawS at h
    rw [if_pos hl] at h
    exact failS_ok (by omega) h
  refine ⟨h0, by omega, ?_, ?_⟩
  · unfold rawS; rw [if_neg h1, if_neg (by simpa using h0)]
  · unfold rawX; rw [if_neg h1, if_neg (by simpa using h0)]
theorem rawS_app (a r : List UInt8) (k : Nat) (hk : a.length = k) : rawS k (a ++ r, 0) = (r, 0) ∧ rawX k (a ++ r, 0) = a := by
  subst hk
  unfold rawS rawX
  rw [if_neg (by simp), if_neg (by simp), if_neg (by simp), if_neg (by simp)]
  simp
theorem numV_app (N k : Nat) (hN : N < 256 ^ k) (r : List UInt8) : numV k (beB N k ++ r, 0) = N ∧ rawS k (beB N k ++ r, 0) = (r, 0) := by
  obtain ⟨h1, h2⟩ := rawS_app (beB N k) r k (beB_length N k)
  refine ⟨?_, h1⟩
  unfold numV
  rw [h2, beB_length]
  have := beN_put N k [] [] 0 rfl hN
  simpa using this
theorem numV_ok {k : Nat} {s : St} (h : (rawS k s).2 = 0) : s.1 = beB (numV k s) k ++ (rawS k s).1 ∧ s.2 = 0 := by
  obtain ⟨h0, hl, h1, h2⟩ := rawS_ok h
  refine ⟨?_, h0⟩
  unfold numV
  rw [h1, h2, List.length_take, Nat.min_eq_left hl, beB_beNM _ _ _ (by rw [List.length_take]; omega), List.drop_zero, List.take_take, Nat.min_self]
  exact (List.take_append_drop _ _).symm
theorem numV_one (N : Nat) (hN : N < 256) (r : List UInt8) : numV 1 (UInt8.ofNat N :: r, 0) = N ∧ rawS 1 (UInt8.ofNat N :: r, 0) = (r, 0) := by
  have := numV_app N 1 (by simpa using hN) r
  simpa [beB] using this
/-- Ops that may be are read again, of their bytes. -/
theorem get_enc (o : Op) (h : okOp o) (r : List UInt8) : getS (encP o ++ r, 0) = (r, 0) ∧ getO (encP o ++ r, 0) = o := by
  obtain ⟨h1, h2, h3, h4, h5, h6, h7, h8⟩ := h
  obtain ⟨k, xs, s, hh, n, up⟩ := o
  simp only at h1 h2 h3 h4 h5 h6 h7 h8
  obtain ⟨k, rfl⟩ : ∃ j : Nat, k = (j : Int) := ⟨k.toNat, by omega⟩
  obtain ⟨hh, rfl⟩ : ∃ j : Nat, hh = (j : Int) := ⟨hh.toNat, by omega⟩
  obtain ⟨n, rfl⟩ : ∃ j : Nat, n = (j : Int) := ⟨n.toNat, by omega⟩
  obtain ⟨u, hu, hub⟩ : ∃ u : Nat, (if up then (1 : UInt8) else 0) = UInt8.ofNat u ∧ (u = if up then 1 else 0) := ⟨if up then 1 else 0, by cases up <;> rfl, rfl⟩
  have hu1 : u ≤ 1 := by cases up <;> simp at hub <;> omega
  have e : encP ⟨(k : Int), xs, s, (hh : Int), (n : Int), up⟩ ++ r = UInt8.ofNat k :: (UInt8.ofNat u :: (beB hh 4 ++ (beB n 4 ++ (beB xs.length 4 ++ (xs ++ (UInt8.ofNat s.length :: (s ++ r))))))) := by
    simp [encP, hu]
  obtain ⟨a1, b1⟩ := numV_one k (by omega) (UInt8.ofNat u :: (beB hh 4 ++ (beB n 4 ++ (beB xs.length 4 ++ (xs ++ (UInt8.ofNat s.length :: (s ++ r)))))))
  obtain ⟨a2, b2⟩ := numV_one u (by omega) (beB hh 4 ++ (beB n 4 ++ (beB xs.length 4 ++ (xs ++ (UInt8.ofNat s.length :: (s ++ r))))))
  obtain ⟨a3, b3⟩ := numV_app hh 4 (by omega) (beB n 4 ++ (beB xs.length 4 ++ (xs ++ (UInt8.ofNat s.length :: (s ++ r)))))
  obtain ⟨a4, b4⟩ := numV_app n 4 (by omega) (beB xs.length 4 ++ (xs ++ (UInt8.ofNat s.length :: (s ++ r))))
  obtain ⟨a5, b5⟩ := numV_app xs.length 4 (by omega) (xs ++ (UInt8.ofNat s.length :: (s ++ r)))
  obtain ⟨b6, a6⟩ := rawS_app xs (UInt8.ofNat s.length :: (s ++ r)) xs.length rfl
  obtain ⟨a7, b7⟩ := numV_one s.length (by omega) (s ++ r)
  obtain ⟨b8, a8⟩ := rawS_app s r s.length rfl
  have u2 : upS (UInt8.ofNat u :: (beB hh 4 ++ (beB n 4 ++ (beB xs.length 4 ++ (xs ++ (UInt8.ofNat s.length :: (s ++ r)))))), 0) = (beB hh 4 ++ (beB n 4 ++ (beB xs.length 4 ++ (xs ++ (UInt8.ofNat s.length :: (s ++ r))))), 0) := by
    unfold upS; rw [a2, if_neg (by omega), b2]
  have u5 : lenS (beB xs.length 4 ++ (xs ++ (UInt8.ofNat s.length :: (s ++ r))), 0) = (xs ++ (UInt8.ofNat s.length :: (s ++ r)), 0) := by
    unfold lenS; rw [a5, if_neg (by omega), b5]
  constructor
  · unfold getS
    simp only [e, b1, u2, b3, b4, a5, u5, b6, a7, b7, b8]
  · unfold getO
    simp only [e, a1, b1, a2, u2, a3, b3, a4, b4, a5, u5, a6, b6, a7, b7, a8]
    cases up <;> simp at hub <;> subst hub <;> simp
theorem gets_enc : ∀ (l : List Op), (∀ o ∈ l, okOp o) → ∀ r, getsS l.length (bodyL l ++ r, 0) = (r, 0) ∧ getsL l.length (bodyL l ++ r, 0) = l
  | [], _, r => by simp [getsS, getsL, bodyL]
  | o :: l, h, r => by
    obtain ⟨h1, h2⟩ := get_enc o (h o (by simp)) (bodyL l ++ r)
    obtain ⟨i1, i2⟩ := gets_enc l (fun x hx => h x (by simp [hx])) r
    have e : bodyL (o :: l) ++ r = encP o ++ (bodyL l ++ r) := by simp [bodyL]
    rw [e]
    simp only [List.length_cons, getsS, getsL, ne_eq, not_true, if_false, h1, h2, i1, i2, and_self]
theorem read_enc (l : List Op) (h : ∀ o ∈ l, okOp o) (hl : l.length ≤ 2048) : readE (encL l) = 0 ∧ readL (encL l) = l := by
  obtain ⟨b1, a1⟩ := rawS_app magic (beB l.length 4 ++ bodyL l) 4 rfl
  have hs : headS (encL l) = (beB l.length 4 ++ bodyL l, 0) := by
    unfold headS encL
    rw [a1, if_neg (by simp), b1]
  obtain ⟨a2, b2⟩ := numV_app l.length 4 (by omega) (bodyL l)
  have hc : countS (beB l.length 4 ++ bodyL l, 0) = (bodyL l, 0) := by
    unfold countS
    rw [a2, if_neg (by omega), b2]
  obtain ⟨g1, g2⟩ := gets_enc l h []
  rw [List.append_nil] at g1 g2
  have he : readE (encL l) = 0 := by
    unfold readE readS
    rw [hs, a2, hc, g1]
    simp [endS]
  refine ⟨he, ?_⟩
  unfold readL
  rw [he, if_neg (by simp), hs, a2, hc, g2]
/-- What is read without an error is the bytes of what was read. -/
theorem failS_off {c : Prop} [Decidable c] {e : Int} (he : e ≠ 0) {s : St} (h : (if c then failS e s else s).2 = 0) : ¬ c ∧ s.2 = 0 := by
  by_cases hc : c
  · rw [if_pos hc] at h
    exact absurd h (failS_ok he)
  · rw [if_neg hc] at h
    exact ⟨hc, h⟩
theorem get_bad {s : St} (h : s.2 ≠ 0) : (getS s).2 ≠ 0 := by
  have hf : ∀ (e : Int) (c : Prop) [Decidable c] (s : St), e ≠ 0 → s.2 ≠ 0 → (if c then failS e s else s).2 ≠ 0 := by
    intro e c _ s he hs
    split
    · exact failS_ok he
    · exact hs
  unfold getS upS lenS
  exact rawS_bad (rawS_bad (rawS_bad (hf _ _ _ (by omega) (rawS_bad (rawS_bad (rawS_bad (hf _ _ _ (by omega) (rawS_bad (rawS_bad h)))))))))
theorem get_back {s : St} (h : (getS s).2 = 0) : okOp (getO s) ∧ s.1 = encP (getO s) ++ (getS s).1 ∧ s.2 = 0 := by
  unfold getS getO at *
  simp only at h ⊢
  generalize e1 : rawS 1 s = s1 at *
  generalize e2 : upS s1 = s2 at *
  generalize e3 : rawS 4 s2 = s3 at *
  generalize e4 : rawS 4 s3 = s4 at *
  generalize e5 : lenS s4 = s5 at *
  generalize e6 : rawS (numV 4 s4) s5 = s6 at *
  generalize e7 : rawS 1 s6 = s7 at *
  obtain ⟨h7, l8, r8, x8⟩ := rawS_ok h
  rw [← e7] at h7
  obtain ⟨i7, h6⟩ := numV_ok h7
  rw [← e6] at h6
  obtain ⟨h5, l6, r6, x6⟩ := rawS_ok h6
  have e5' := e5
  rw [← e5] at h5
  unfold lenS at h5
  obtain ⟨c5, h5⟩ := failS_off (by omega) h5
  unfold lenS at e5'
  rw [if_neg c5] at e5'
  obtain ⟨i5, h4⟩ := numV_ok h5
  rw [← e4] at h4
  obtain ⟨i4, h3⟩ := numV_ok h4
  rw [← e3] at h3
  obtain ⟨i3, h2⟩ := numV_ok h3
  have e2' := e2
  rw [← e2] at h2
  unfold upS at h2
  obtain ⟨c2, h2⟩ := failS_off (by omega) h2
  unfold upS at e2'
  rw [if_neg c2] at e2'
  obtain ⟨i2, h1⟩ := numV_ok h2
  rw [← e1] at h1
  obtain ⟨i1, h0⟩ := numV_ok h1
  have v1 := numV_lt 1 s
  have v2 := numV_lt 1 s1
  have v3 := numV_lt 4 s2
  have v4 := numV_lt 4 s3
  have v5 := numV_lt 4 s4
  have v7 := numV_lt 1 s6
  have n8 : (rawX (numV 1 s6) s7).length = numV 1 s6 := by rw [x8, List.length_take]; omega
  have n6 : (rawX (numV 4 s4) s5).length = numV 4 s4 := by rw [x6, List.length_take]; omega
  refine ⟨⟨by simp only; omega, by simp only; omega, by simp only; omega, by simp only; omega, by simp only; omega, by simp only; omega, by simp only; omega, by simp only; omega⟩, ?_, h0⟩
  unfold encP
  simp only [n6, n8, Int.toNat_natCast]
  rw [e1] at i1
  rw [e2'] at i2
  rw [e3] at i3
  rw [e4] at i4
  rw [e5'] at i5
  rw [e7] at i7
  rw [r8] 
  have j8 : s7.1 = rawX (numV 1 s6) s7 ++ s7.1.drop (numV 1 s6) := by rw [x8, List.take_append_drop]
  have j6 : s5.1 = rawX (numV 4 s4) s5 ++ s6.1 := by rw [x6, ← e6, r6, List.take_append_drop]
  have b1 : ∀ N, beB N 1 = [UInt8.ofNat N] := fun N => by simp [beB]
  have b2 : beB (numV 1 s1) 1 = [if decide (numV 1 s1 = 1) = true then 1 else 0] := by
    rw [b1]
    rcases (by omega : numV 1 s1 = 0 ∨ numV 1 s1 = 1) with h | h <;> rw [h] <;> rfl
  rw [i1, i2, i3, i4, i5, j6, i7, b1 (numV 1 s), b1 (numV 1 s6), b2]
  conv => lhs; rw [j8]
  simp only [List.append_assoc, List.cons_append, List.nil_append]
theorem gets_bad : ∀ (n : Nat) (s : St), s.2 ≠ 0 → getsS n s = s
  | 0, _, _ => rfl
  | n + 1, s, h => by rw [getsS, if_pos h]
theorem gets_back : ∀ (n : Nat) (s : St), (getsS n s).2 = 0 → (∀ o ∈ getsL n s, okOp o) ∧ (getsL n s).length = n ∧ s.1 = bodyL (getsL n s) ++ (getsS n s).1 ∧ s.2 = 0
  | 0, s, h => ⟨fun o ho => (by cases ho), rfl, (by simp [getsL, getsS, bodyL]), h⟩
  | n + 1, s, h => by
    have h0 : s.2 = 0 := Classical.byContradiction fun hn => by
      rw [gets_bad _ _ hn] at h
      exact hn h
    have hn : ¬ s.2 ≠ 0 := fun hc => hc h0
    rw [getsS, if_neg hn] at h ⊢
    rw [getsL, if_neg hn]
    obtain ⟨i1, i2, i3, i4⟩ := gets_back n (getS s) h
    obtain ⟨j1, j2, j3⟩ := get_back i4
    refine ⟨fun o ho => ?_, by simp [i2], ?_, h0⟩
    · rcases List.mem_cons.1 ho with rfl | ho
      · exact j1
      · exact i1 o ho
    · conv => lhs; rw [j2, i3]
      simp [bodyL]
theorem read_back (b : List UInt8) (h : readE b = 0) : (∀ o ∈ readL b, okOp o) ∧ encL (readL b) = b ∧ (readL b).length ≤ 2048 := by
  have hL : readL b = getsL (numV 4 (headS b)) (countS (headS b)) := by unfold readL; rw [h, if_neg (by simp)]
  rw [hL]
  unfold readE readS at h
  generalize e1 : getsS (numV 4 (headS b)) (countS (headS b)) = sg at h
  have hg : sg.2 = 0 ∧ sg.1 = [] := by
    unfold endS at h
    obtain ⟨h1, h2⟩ := failS_off (by omega) h
    exact ⟨h2, List.eq_nil_of_length_eq_zero (by rcases Nat.eq_zero_or_pos sg.1.length with h3 | h3; exact h3; exact absurd ⟨h2, h3⟩ h1)⟩
  have hg1 : (getsS (numV 4 (headS b)) (countS (headS b))).2 = 0 := by rw [e1]; exact hg.1
  obtain ⟨i1, i2, i3, i4⟩ := gets_back _ _ hg1
  rw [e1, hg.2, List.append_nil] at i3
  have i4' := i4
  unfold countS at i4'
  obtain ⟨c1, h2⟩ := failS_off (by omega) i4'
  have hc : countS (headS b) = rawS 4 (headS b) := by unfold countS; rw [if_neg c1]
  obtain ⟨j1, j2⟩ := numV_ok h2
  have j2' := j2
  unfold headS at j2'
  obtain ⟨c3, h3⟩ := failS_off (by omega) j2'
  have hh : headS b = rawS 4 (b, 0) := by unfold headS; rw [if_neg c3]
  obtain ⟨_, l4, r4, x4⟩ := rawS_ok h3
  refine ⟨i1, ?_, by omega⟩
  unfold encL
  rw [i2, ← i3, hc, ← j1, hh, r4]
  have hm : magic = b.take 4 := by
    have : rawX 4 (b, 0) = magic := Classical.byContradiction c3
    rw [← this, x4]
  rw [hm]
  simp only
  rw [List.take_append_drop]
/-- Which errors there are. -/
def knownE (e : Int) : Prop := e = 0 ∨ e = 2 ∨ e = 3 ∨ e = 4 ∨ e = 6
theorem failS_known {e : Int} (he : knownE e) {s : St} (h : knownE s.2) : knownE (failS e s).2 := by
  unfold failS
  simp only
  split
  · exact he
  · exact h
theorem rawS_known {k : Nat} {s : St} (h : knownE s.2) : knownE (rawS k s).2 := by
  unfold rawS
  split
  · exact failS_known (.inr (.inl rfl)) h
  · split
    · exact h
    · exact .inl rfl
theorem if_known {c : Prop} [Decidable c] {e : Int} (he : knownE e) {s : St} (h : knownE s.2) : knownE (if c then failS e s else s).2 := by
  split
  · exact failS_known he h
  · exact h
theorem get_known {s : St} (h : knownE s.2) : knownE (getS s).2 := by
  unfold getS upS lenS
  exact rawS_known (rawS_known (rawS_known (if_known (.inr (.inr (.inl rfl))) (rawS_known (rawS_known (rawS_known (if_known (.inr (.inr (.inr (.inl rfl)))) (rawS_known (rawS_known h)))))))))
theorem gets_known : ∀ (n : Nat) (s : St), knownE s.2 → knownE (getsS n s).2
  | 0, _, h => h
  | n + 1, s, h => by
    rw [getsS]
    split
    · exact h
    · exact gets_known n _ (get_known h)
theorem head_known (b : List UInt8) : knownE (headS b).2 := by
  unfold headS
  exact if_known (.inr (.inr (.inr (.inl rfl)))) (rawS_known (.inl rfl))
theorem count_known {s : St} (h : knownE s.2) : knownE (countS s).2 := by
  unfold countS
  exact if_known (.inr (.inr (.inr (.inr rfl)))) (rawS_known h)
theorem read_known (b : List UInt8) : knownE (readE b) := by
  unfold readE readS endS
  exact if_known (.inr (.inr (.inl rfl))) (gets_known _ _ (count_known (head_known b)))
/-- An error stays. -/
theorem failS_stays {e f : Int} {s : St} (h : s.2 = f) (hf : f ≠ 0) : (failS e s).2 = f := by
  unfold failS
  simp only
  rw [if_neg (by rw [h]; exact hf), h]
theorem rawS_stays {k : Nat} {f : Int} {s : St} (h : s.2 = f) (hf : f ≠ 0) : (rawS k s).2 = f := by
  unfold rawS
  split
  · exact failS_stays h hf
  · rw [if_pos (by rw [h]; exact hf), h]
theorem read_stays (b : List UInt8) {f : Int} (h : (headS b).2 = f) (hf : f ≠ 0) : readE b = f := by
  have h1 : (countS (headS b)).2 = f := by
    unfold countS
    split
    · exact failS_stays (rawS_stays h hf) hf
    · exact rawS_stays h hf
  unfold readE readS
  rw [gets_bad _ _ (by rw [h1]; exact hf)]
  unfold endS
  rw [if_neg (fun hc => hf (h1 ▸ hc.1)), h1]
theorem read_short (b : List UInt8) (h : b.length < 4) : readE b = 2 := by
  refine read_stays b ?_ (by omega)
  have h1 : (rawS 4 (b, 0)).2 = 2 := by
    unfold rawS
    rw [if_pos h]
    rfl
  unfold headS
  split
  · exact failS_stays h1 (by omega)
  · exact h1
theorem read_other (b : List UInt8) (h : 4 ≤ b.length) (hm : b.take 4 ≠ magic) : readE b = 4 := by
  refine read_stays b ?_ (by omega)
  have hl : ¬ b.length < 4 := by omega
  have hr : rawS 4 (b, 0) = (b.drop 4, 0) := by simp [rawS, hl]
  have hx : rawX 4 (b, 0) = b.take 4 := by simp [rawX, hl]
  unfold headS
  rw [hr, hx, if_pos hm]
  rfl
end Snap
end Go.Proofs.YtdneeablghlemaaGreatDoor
/- make of a slice of bytes. Condition: at most 2^40. -/
namespace Go.Proofs.YtdneeablghlemaaGreatDoor
open Go.RowKit Go.ChangeShapes Go.WideShapes Go.ChangeAt Go.Deep
theorem make_bytes (n : Nat) (hn : n ≤ 1099511627776) (w : World) : ∃ w', (Instr.makeSlice 40 (.int .i64 (n : Int)) (.int .i64 (n : Int))).run Tryz.prog w = .ok (.slice (some ⟨w.heap.size, 0, none⟩) n n) w' ∧
    OwnB w' w.heap.size (.slice (some ⟨w.heap.size, 0, none⟩) n n) (List.replicate n 0) ∧ Below w.heap.size w w' := by
  have hi := info_u8
  cases hq : Tryz.prog.info? 5 with
  | none => rw [hq] at hi; simp at hi
  | some i =>
    rw [hq] at hi
    simp only [Option.map_some, Option.some.injEq, Prod.mk.injEq] at hi
    obtain ⟨hz, hs, hb⟩ := hi
    obtain ⟨w', h1, h2, h3⟩ := run_make_full (P := Tryz.prog) (w := w) w.heap.size 40 5 i (.int .u8 0) 1 Tryz.underlying40 hq hz hs .i64 .i64 n (by rw [hb]; omega) (by unfold maxLen; omega) (Nat.le_refl _)
    refine ⟨w', h1, ?_, below_of_grown h3 (Nat.le_refl _) (fun k hk => by cases hk)⟩
    unfold OwnB
    rw [List.length_replicate, List.map_replicate]
    rw [show (Value.int IntKind.u8 0).cells = #[.int .u8 0] from rfl, Nat.mul_one, toList_madeCells_one] at h2
    exact h2
end Go.Proofs.YtdneeablghlemaaGreatDoor
/- Ops as a slice that reads as a list, and as it is opened. No condition. -/
namespace Go.Proofs.YtdneeablghlemaaGreatDoor
open Go.RowKit Go.ChangeShapes Go.WideShapes Go.ChangeAt Go.Deep
namespace Snap
/-- An op, and where its bytes lie. -/
structure OpD where
  o : Op
  A : Option Addr
  c : Nat
/-- Its cells. -/
def OpD.cs (e : OpD) : List Value := [.int .i64 e.o.k, .slice e.A e.o.xs.length e.c, .string (str e.o.s), .int .i64 e.o.h, .int .i64 e.o.n, .bool e.o.up]
/-- It as a value. -/
def OpD.v (e : OpD) : Value := .agg #[.int .i64 e.o.k, .slice e.A e.o.xs.length e.c, .string (str e.o.s), .int .i64 e.o.h, .int .i64 e.o.n, .bool e.o.up]
def cells (es : List OpD) : List Value := es.flatMap OpD.cs
theorem cells_length (es : List OpD) : (cells es).length = es.length * 6 := by
  induction es with
  | nil => rfl
  | cons e es ih => simp only [cells, List.flatMap_cons, List.length_append, OpD.cs, List.length_cons, List.length_nil] at ih ⊢; omega
theorem cells_get (es : List OpD) : ∀ (i : Nat) (e : OpD), es[i]? = some e → ∀ j < 6, (cells es)[i * 6 + j]? = e.cs[j]? := by
  induction es with
  | nil => intro i e h; simp at h
  | cons e es ih =>
    intro i x h j hj
    have hc : cells (e :: es) = e.cs ++ cells es := rfl
    have hl : e.cs.length = 6 := rfl
    rcases i with _ | i
    · have : e = x := by simpa using h
      subst this
      rw [hc, Nat.zero_mul, Nat.zero_add, List.getElem?_append_left (by omega)]
    · have h1 := ih i x (by simpa using h) j hj
      rw [hc, List.getElem?_append_right (by omega), hl, show (i + 1) * 6 + j - 6 = i * 6 + j by omega]
      exact h1
/-- The op's bytes lie below block B. -/
def OkD (w : World) (B : Nat) (e : OpD) : Prop := IsB w B e.A e.o.xs.length e.o.xs ∧ e.o.xs.length ≤ e.c ∧ e.c ≤ maxLen ∧ e.o.s.length ≤ maxLen
def IsO (w : World) (B : Nat) (A : Option Addr) (n : Nat) (es : List OpD) : Prop := es.length = n ∧ IsV w B 6 A n (cells es) ∧ ∀ e ∈ es, OkD w B e
section
variable {w w' : World} {B B' n : Nat} {A : Option Addr} {es : List OpD}
theorem OkD.below {e : OpD} (h : OkD w B e) (hb : Below B w w') : OkD w' B e := ⟨h.1.below hb, h.2⟩
theorem OkD.more {e : OpD} (h : OkD w B e) (hB : B ≤ B') : OkD w B' e := ⟨h.1.more hB, h.2⟩
theorem OkD.on {e : OpD} (h : OkD w w.heap.size e) (hb : Below w.heap.size w w') : OkD w' w'.heap.size e := (h.below hb).more hb.size
theorem IsO.nil (w : World) (B : Nat) (A : Option Addr) : IsO w B A 0 [] := ⟨rfl, IsV.nil _ _ _ _, fun _ h => by cases h⟩
theorem IsO.below (h : IsO w B A n es) (hb : Below B w w') : IsO w' B A n es := ⟨h.1, h.2.1.below hb, fun e he => (h.2.2 e he).below hb⟩
theorem IsO.more (h : IsO w B A n es) (hB : B ≤ B') : IsO w B' A n es := ⟨h.1, h.2.1.more hB, fun e he => (h.2.2 e he).more hB⟩
theorem IsO.on (h : IsO w w.heap.size A n es) (hb : Below w.heap.size w w') : IsO w' w'.heap.size A n es := (h.below hb).more hb.size
theorem IsO.later (h : IsO w w.heap.size A n es) (l : Later w) : IsO l.w l.w.heap.size A n es := h.on l.hb
theorem IsO.alloc (h : IsO w w.heap.size A n es) (o : Obj) : IsO (w.alloc o) (w.alloc o).heap.size A n es := h.on ((Below.refl _ _).alloc (Nat.le_refl _) o)
/-- One of them: where it lies, its cells. -/
theorem IsO.at (h : IsO w B A n es) {i : Nat} (hi : i < n) : ∃ b off e, A = some ⟨b, off, none⟩ ∧ b < B ∧ es[i]? = some e ∧ OkD w B e ∧
    w.cell? ⟨b, off + i * 6, none⟩ = some (.int .i64 e.o.k) ∧ w.cell? ⟨b, off + i * 6 + 1, none⟩ = some (.slice e.A e.o.xs.length e.c) ∧ w.cell? ⟨b, off + i * 6 + 2, none⟩ = some (.string (str e.o.s)) ∧
    w.cell? ⟨b, off + i * 6 + 3, none⟩ = some (.int .i64 e.o.h) ∧ w.cell? ⟨b, off + i * 6 + 4, none⟩ = some (.int .i64 e.o.n) ∧ w.cell? ⟨b, off + i * 6 + 5, none⟩ = some (.bool e.o.up) := by
  obtain ⟨hl, hv, hp⟩ := h
  obtain ⟨b, off, e, hb, hc⟩ := hv.2 (by omega)
  have hil : i < es.length := by omega
  have hg := cells_get es i _ (List.getElem?_eq_getElem hil)
  have hcl := cells_length es
  have key : ∀ j < 6, ∀ v, es[i].cs[j]? = some v → w.cell? ⟨b, off + i * 6 + j, none⟩ = some v := by
    intro j hj v hv
    have h1 := hg j hj
    rw [hv] at h1
    obtain ⟨hlt, e1⟩ := List.getElem?_eq_some_iff.1 h1
    rw [Nat.add_assoc, hc _ hlt, e1]
  exact ⟨b, off, es[i], e, hb, List.getElem?_eq_getElem hil, hp _ (List.getElem_mem hil), key 0 (by omega) _ rfl, key 1 (by omega) _ rfl, key 2 (by omega) _ rfl, key 3 (by omega) _ rfl, key 4 (by omega) _ rfl, key 5 (by omega) _ rfl⟩
end
theorem leafsOp : leafsOf Tryz.prog 5 42 0 = some [(3, 0), (40, 1), (9, 2), (3, 3), (3, 4), (4, 5)] := by kernel_rfl
theorem cellsOp : Tryz.prog.cellsOf 42 = 6 := by kernel_rfl
theorem info_op : (Tryz.prog.info? 42).map (fun i => (i.zero, i.size, i.bytes)) = some (some (.agg #[.int .i64 0, .slice none 0 0, .string ByteArray.empty, .int .i64 0, .int .i64 0, .bool false]), 6, 72) := by kernel_rfl
theorem str_data (b : ByteArray) : str b.data.toList = b := by cases b; rfl
theorem str_size (s : List UInt8) : (str s).size = s.length := List.size_toArray
section
variable {H : Type} {enc : TypeId × Value → H} {w : World} {spare : Nat → Bool} {held : Bool}
theorem open_apis {m : Nat} {v : Value} {y : DataW H × List MemPlace} (h : DataW.trod enc Tryz.prog w 0 spare held m 31 [v] = some y) :
    ∃ A n c es, v = .slice A n c ∧ IsO w w.heap.size A n es ∧ n ≤ c ∧ c ≤ maxLen := by
  obtain ⟨A, n, c, rows, e, hl, hr, hv, h1, h2⟩ := open_rows (size := 6) (fun cs => ∃ e : OpD, cs = e.cs ∧ OkD w w.heap.size e) Tryz.underlying31 cellsOp (by omega)
    (fun n cs y h hcl => by
      have hlf := trod_leafs cs 5 42 0 _ n y leafsOp (by rw [cellsOp, List.drop_zero, List.take_of_length_le (by omega)]; exact h)
      match cs, hcl with
      | [a, b, c, d, f, g], _ =>
        obtain ⟨_, _, t0⟩ := hlf 3 0 (by simp)
        obtain ⟨_, _, t1⟩ := hlf 40 1 (by simp)
        obtain ⟨_, _, t2⟩ := hlf 9 2 (by simp)
        obtain ⟨_, _, t3⟩ := hlf 3 3 (by simp)
        obtain ⟨_, _, t4⟩ := hlf 3 4 (by simp)
        obtain ⟨_, _, t5⟩ := hlf 4 5 (by simp)
        simp only [List.drop_succ_cons, List.drop_zero, List.take_succ_cons, List.take_zero] at t0 t1 t2 t3 t4 t5
        obtain ⟨k, rfl, _⟩ := open_i64 t0
        obtain ⟨A, n, c, xs, rfl, hx, hn, hc⟩ := open_bytes t1
        obtain ⟨s, e2, _, hs⟩ := DataW.trod_string Tryz.underlying9 t2
        cases e2
        obtain ⟨hh, rfl, _⟩ := open_i64 t3
        obtain ⟨m, rfl, _⟩ := open_i64 t4
        obtain ⟨u, rfl⟩ := open_bool' t5
        obtain rfl := hx.1
        exact ⟨⟨⟨k, xs, s.data.toList, hh, m, u⟩, A, c⟩, by simp only [OpD.cs, str_data], hx, hn, hc, by simp only; rw [Array.length_toList]; exact hs⟩) h
  have hb : ∃ es : List OpD, es.length = rows.length ∧ rows.flatten = cells es ∧ ∀ e ∈ es, OkD w w.heap.size e := by
    clear hl hv
    induction rows with
    | nil => exact ⟨[], rfl, rfl, fun e he => by cases he⟩
    | cons r rows ih =>
      obtain ⟨es, hes0, hes, hes2⟩ := ih (fun r hr' => hr r (by simp [hr']))
      obtain ⟨_, e, rfl, he⟩ := hr r (by simp)
      refine ⟨e :: es, by simp [hes0], ?_, fun x hx => ?_⟩
      · rw [List.flatten_cons, hes]
        rfl
      · rcases List.mem_cons.1 hx with rfl | hx
        · exact he
        · exact hes2 x hx
  obtain ⟨es, hes0, hes, hes2⟩ := hb
  exact ⟨A, n, c, es, e, ⟨by omega, hes ▸ hv, hes2⟩, h1, h2⟩
end
end Snap
end Go.Proofs.YtdneeablghlemaaGreatDoor
/- Which ops may be kept, by contract. Condition: an op whose sizes may be. -/
namespace Go.Proofs.YtdneeablghlemaaGreatDoor
open Go.RowKit Go.ChangeShapes Go.WideShapes Go.ChangeAt Go.Deep
namespace Snap
set_option maxRecDepth 20000 in
set_option maxHeartbeats 4000000 in
theorem right_any (e : OpD) (w : World) (hl : e.o.xs.length ≤ maxLen) (hs : e.o.s.length ≤ maxLen) :
    Calls Tryz.prog 18 #[e.v] w fun x w' => x = .returned (.bool (decide (okOp e.o))) ∧ Below w.heap.size w w' := by
  unfold maxLen at hl hs
  obtain ⟨⟨k, xs, s, h, n, up⟩, A, c⟩ := e
  obtain ⟨r, hr⟩ : ∃ r, decide (okOp ⟨k, xs, s, h, n, up⟩) = r := ⟨_, rfl⟩
  simp only at hl hs ⊢
  rw [hr]
  unfold okOp at hr
  unfold OpD.v
  simp only at hr ⊢
  have hss := str_size s
  generalize str s = sb at hss ⊢
  have hb : Below w.heap.size w (w.alloc (.cells #[.int .i64 k, .slice A xs.length c, .string sb, .int .i64 h, .int .i64 n, .bool up] 42)) := (Below.refl _ _).alloc (Nat.le_refl _) _
  have hbox := blk_new w 42 #[.int .i64 k, .slice A xs.length c, .string sb, .int .i64 h, .int .i64 n, .bool up]
  obtain ⟨w1, hw1⟩ : ∃ w1, w.alloc (.cells #[.int .i64 k, .slice A xs.length c, .string sb, .int .i64 h, .int .i64 n, .bool up] 42) = w1 := ⟨_, rfl⟩
  rw [hw1] at hb hbox
  have hcg := blk_cell hbox
  replace hb := hide hb
  replace hbox := hide hbox
  replace hr := hide hr
  go_enter Tryz.func18, Tryz.ntmps18
  go_wp2_with fail
  all_goals
    go_ret
    refine ⟨ret_bool ?_, hb.out⟩
    rw [← hr.out]
    first
      | exact (decide_eq_false (by omega)).symm
      | exact decide_eq_decide.2 ⟨fun _ => by omega, fun _ => by omega⟩
end Snap
end Go.Proofs.YtdneeablghlemaaGreatDoor
/- Law 44's few, by contract: at most 40 ops of at most 300 bytes each. Condition: a slice of ops that reads as a list. -/
namespace Go.Proofs.YtdneeablghlemaaGreatDoor
open Go.RowKit Go.ChangeShapes Go.WideShapes Go.ChangeAt Go.Deep
namespace Snap
/-- append of an op that has just been written out onto a row of the call's own. -/
theorem wpl_lit_o {w : World} {t : TypeId} {ops : Array Oper} {rest : List Oper} {o : Oper} {a : Act} {Q : Exit → Act → World → Prop} (hgd : o.guard = none) (s x : Operand)
    (ho : o.op = .call { callee := .builtin .append, args := #[s, x], argTypes := #[31, 31] })
    (base : Nat) (v : Value) (n : Nat) (es : List OpD) (e : OpD) (vals : List Value) (c : Nat) (hs : a.eval s = v) (hx : a.eval x = .slice (some ⟨w.heap.size, 0, none⟩) 1 c) (hv : vals = e.cs) (hown : w.ownsRow base 42 6 v n (cells es)) (hbase : base ≤ w.heap.size) (hb : n ≤ 1099511627776)
    (h : ∀ v' w', w'.ownsRow base 42 6 v' (n + 1) (cells (es ++ [e])) → w.grownBy w' v.ownBlock → wpList Tryz.prog ops Q rest (a.put o.dst v') w') : wpList Tryz.prog ops Q (o :: rest) a (w.alloc (.cells vals.toArray t)) := by
  subst hv
  obtain ⟨i9, hi9, hiz, his, hib9⟩ := info_parts info_op
  refine wpl_append (w.alloc (.cells e.cs.toArray t)) hgd s x 31 ho base 42 i9 _ 6 72 Tryz.underlying31 hi9 hiz his hib9 rfl (by omega) v n (cells es) hs (World.ownsRow.alloc hown _) (w.heap.size + 1) (some ⟨w.heap.size, 0, none⟩) 1 c e.cs hx (IsV.lit w t e.cs c 1 rfl) ?_ (by unfold maxLen; omega) (by omega) (by simp; omega) fun v' w' h1 h2 _ => ?_
  · intro u hu
    simp only [OpD.cs, List.mem_cons, List.not_mem_nil, or_false] at hu
    rcases hu with rfl | rfl | rfl | rfl | rfl | rfl <;> rfl
  · exact h v' w' (by simpa [cells] using h1) (grown_alloc_left h2)
theorem row_below {w w' : World} {base : Nat} {v : Value} {e : TypeId} {size n : Nat} {xs : List Value} (h : w.ownsRow base e size v n xs) (hg : w.grownBy w' v.ownBlock) (hb : base ≤ w.heap.size) : Below base w w' := below_of_grown hg hb fun k hk => (World.ownsRow.lt h k hk).1
/-- A row of the call's own is a slice that reads. -/
theorem row_isO {w : World} {base B : Nat} {v : Value} {n : Nat} {es : List OpD} (h : w.ownsRow base 42 6 v n (cells es)) (hB : B ≤ w.heap.size) (hd : ∀ e ∈ es, OkD w B e) : ∃ A c, v = .slice A n c ∧ n ≤ c ∧ c ≤ maxLen ∧ IsO w w.heap.size A n es := by
  obtain ⟨A, c, e, h1, h2, h3⟩ := own_isv h
  have hl := h.1
  rw [cells_length] at hl
  exact ⟨A, c, e, h1, h2, by omega, h3, fun e he => (hd e he).more hB⟩
def cutD (e : OpD) : OpD := ⟨⟨e.o.k, e.o.xs.take 300, e.o.s, e.o.h, e.o.n, e.o.up⟩, e.A, e.c⟩
def fewD (es : List OpD) : List OpD := (es.take 40).map cutD
theorem cut_ok {w : World} {B : Nat} {e : OpD} (h : OkD w B e) : OkD w B (cutD e) := by
  obtain ⟨h1, h2, h3, h4⟩ := h
  refine ⟨?_, ?_, h3, h4⟩
  · have h5 := h1.take (m := min 300 e.o.xs.length) (by omega)
    have : (e.o.xs.take 300).length = min 300 e.o.xs.length := List.length_take
    show IsB w B e.A (e.o.xs.take 300).length (e.o.xs.take 300)
    rw [this]
    have e1 : e.o.xs.take (min 300 e.o.xs.length) = e.o.xs.take 300 := by
      rcases Nat.le_total 300 e.o.xs.length with h | h
      · rw [Nat.min_eq_left h]
      · rw [Nat.min_eq_right h, List.take_of_length_le (Nat.le_refl _), List.take_of_length_le h]
    rw [e1] at h5
    exact h5
  · show (e.o.xs.take 300).length ≤ e.c
    rw [List.length_take]
    omega
theorem few_step {es : List OpD} {j : Nat} {e : OpD} (h : es[j]? = some e) (hj : j < 40) : fewD (es.take (j + 1)) = fewD (es.take j) ++ [cutD e] := by
  obtain ⟨hl, rfl⟩ := List.getElem?_eq_some_iff.1 h
  unfold fewD
  rw [List.take_take, List.take_take, Nat.min_eq_right (by omega), Nat.min_eq_right (by omega), List.take_succ_eq_append_getElem hl, List.map_append]
  rfl
end Snap
end Go.Proofs.YtdneeablghlemaaGreatDoor
/- A row that lists variables, met: the wrap that keeps what they hold and the world's shape. No condition. -/
namespace Go.Proofs.YtdneeablghlemaaGreatDoor
open Go.RowKit Go.ChangeShapes Go.WideShapes Go.ChangeAt Go.Deep
theorem returns_laid {H : Type} {enc : TypeId × Value → H} {a : Assume} {C : Checked} {os : Os} {f : FuncId} {fn : Func} {s : ChangeSpec} {conds : List PathCond} {apart fresh handsOn again : Bool} {X : World → Array Value → Prop}
    (hX : ∀ (w w' : World) (args : Array Value), w.heap = w'.heap → X w args → X w' args)
    (own : ownKnob C.prog.godebug = none) (started : os.Started) (noInit : C.prog.inits.idxOf? f = none) (hfn : C.prog.funcs[f]? = some fn)
    (witness : ∃ (w : World) (tape : Tape) (i : Input), w.os = os ∧ (w.forCall tape i).Shaped C.prog ∧ i.vars = [] ∧ Input.okWide C.prog (w.forCall tape i) .any w.heap.size f i ∧
      ((s.pre enc C.prog fn conds apart (w.forCall tape i).memory i.args ∧ X (w.forCall tape i).memory i.args) ∧ sizedMet enc C.prog fn (OpenSpec.ofChange s) apart (w.forCall tape i).memory i.args) ∧ a.holds C.prog (lone (Frame.enter C.prog f i.args .normal) [] (w.forCall tape i)))
    (contract : ∀ (W : World) (base : Nat) (args : Array Value) (ds gs : List (DataW H)) (before : List MemPlace),
      (∀ (j : Nat) t v, fn.params[j]? = some t → args[j]? = some v → Value.okWide C.prog W .any base t v) →
      DataW.Whole enc C.prog fn.params.toList s.vars apart W args.toList ds gs before →
      conds.all (PathCond.test C.prog ⟨fn.params.toList, ds, s.plain.varTypes C.prog, gs⟩) = true →
      X W args → W.ShapedOpen C.prog →
      Calls C.prog f args W fun e W' => ∃ v, e = .returned v ∧ s.post enc C.prog fn apart fresh handsOn again W args v W') :
    ReturnsInHanded a C os f .any (fun w args => (s.pre enc C.prog fn conds apart w args ∧ X w args) ∧ sizedMet enc C.prog fn (OpenSpec.ofChange s) apart w args) (s.post enc C.prog fn apart fresh handsOn again) := by
  refine returnsInHanded_of_calls own started noInit witness ?_
  intro w tape i _ hsh _ hok hpre _
  obtain ⟨_, _, _, fn', hfn', _, _, _, _, hval⟩ := hok
  have e : fn' = fn := Option.some.inj (hfn'.symm.trans hfn)
  subst e
  obtain ⟨⟨⟨ds, gs, before, hw, hc⟩, hx⟩, _⟩ := hpre
  have hw' := DataW.Whole.of_heap (w' := w.forCall tape i) (by rfl) hw
  refine (contract (w.forCall tape i) w.heap.size i.args ds gs before hval hw' hc (hX _ _ _ (by rfl) hx) hsh).mono fun e W' ⟨v, he, hp⟩ => ?_
  subst he
  exact ChangeSpec.post_blind hp
end Go.Proofs.YtdneeablghlemaaGreatDoor
/- Small laws of blocks, rows and make. No condition. -/
namespace Go.Proofs.YtdneeablghlemaaGreatDoor
open Go.RowKit Go.ChangeShapes Go.WideShapes Go.ChangeAt Go.Deep
namespace Mach33
theorem lt_of_blk {w : World} {g : Nat} {o : Obj} (h : w.heap[g]? = some o) : g < w.heap.size := by
  rcases Nat.lt_or_ge g w.heap.size with h1 | h1
  · exact h1
  · rw [Array.getElem?_eq_none h1] at h; cases h
theorem blk_on {w w' : World} {g : Nat} {x : Obj} (hb : Below w.heap.size w w') (h : w.heap[g]? = some x) : w'.heap[g]? = some x := (hb.block g (lt_of_blk h)).trans h
section
variable {w : World} {base size n x : Nat} {e T : TypeId} {v : Value} {xs : List Value} {cs : Array Value}
theorem row_not_x (h : w.ownsRow base e size v n xs) {fr : Nat × Nat} (hx : w.heap[x]? = some (.cells cs T fr)) (hne : T ≠ e) : v.ownBlock = none ∨ v.ownBlock ≠ some x := by
  rcases h.2 with ⟨rfl, _⟩ | ⟨g, cap, cur, rfl, hg, hh, _⟩
  · exact .inl rfl
  · right
    intro e2
    have : g = x := by simpa [Value.ownBlock] using e2
    subst this
    rw [hh] at hx
    simp at hx
    exact hne hx.2.1.symm
theorem row_set (h : w.ownsRow base e size v n xs) (hx : w.heap[x]? = some (.cells cs T (0, 0))) (hne : T ≠ e) (i : Nat) (u : Value) : (w.setCell ⟨x, i, none⟩ u).ownsRow base e size v n xs := by
  obtain ⟨w2, h1, h2, h3⟩ := store_cell hx i u
  rw [h1]
  exact World.ownsRow.kept h h3 (row_not_x h hx hne)
end
/-- make of a row of structs. -/
theorem make_zero {sz : Nat} {t e : TypeId} {zv : Value} {bytes : Nat} (ht : Tryz.prog.underlying t = some (.slice e)) (hi : (Tryz.prog.info? e).map (fun i => (i.zero, i.size, i.bytes)) = some (some zv, sz, bytes)) (hb16 : bytes ≤ 256) (n : Nat) (hn : n ≤ 1099511627776) (w : World) :
    ∃ w', (Instr.makeSlice t (.int .i64 (n : Int)) (.int .i64 (n : Int))).run Tryz.prog w = .ok (.slice (some ⟨w.heap.size, 0, none⟩) n n) w' ∧ Below w.heap.size w w' ∧ w'.heap.size = w.heap.size + 1 := by
  cases hq : Tryz.prog.info? e with
  | none => rw [hq] at hi; simp at hi
  | some i =>
    rw [hq] at hi
    simp only [Option.map_some, Option.some.injEq, Prod.mk.injEq] at hi
    obtain ⟨hz2, hs, hb⟩ := hi
    have hr := run_make (P := Tryz.prog) w t e i zv ht hq hz2 .i64 .i64 n n (by omega) (Int.le_refl _) (by
      have h2 : i.bytes * n ≤ 256 * n := Nat.mul_le_mul_right n (by omega)
      have h3 : ((i.bytes * n : Nat) : Int) ≤ 281474976710656 := by omega
      rwa [Int.natCast_mul] at h3) (by omega)
    simp only [Int.toNat_natCast] at hr
    exact ⟨_, hr, (Below.refl _ _).alloc (Nat.le_refl _) _, by simp⟩
end Mach33
end Go.Proofs.YtdneeablghlemaaGreatDoor
/- conn: Right; flow, pin: New, whatever they are given. No condition. -/
namespace Go.Proofs.YtdneeablghlemaaGreatDoor
open Go.RowKit Go.ChangeShapes Go.WideShapes Go.ChangeAt Go.Deep
namespace Mach33
structure Rl where
  a : Int
  b : Int
  c : Int
  d : Int
abbrev arrR (r : Rl) : Array Value := #[.int .i64 r.a, .int .i64 r.b, .int .i64 r.c, .int .i64 r.d]
def rlL (r : Rl) : List Value := [.int .i64 r.a, .int .i64 r.b, .int .i64 r.c, .int .i64 r.d]
def rlN (r : Rl) : Nat → Int
  | 0 => r.a
  | 1 => r.b
  | 2 => r.c
  | _ => r.d
def okN (v : Int) : Bool := decide (1 ≤ v) && decide (v ≤ 1073741824)
def rightB (r : Rl) : Bool := okN (rlN r 0) && okN (rlN r 1) && okN (rlN r 2) && okN (rlN r 3)
theorem right_yes {r : Rl} (h : ∀ j < 4, okN (rlN r j) = true) : rightB r = true := by
  unfold rightB
  rw [h 0 (by omega), h 1 (by omega), h 2 (by omega), h 3 (by omega)]
  rfl
theorem right_no {r : Rl} {j : Nat} (hj : j < 4) (h : okN (rlN r j) = false) : rightB r = false := by
  unfold rightB
  rcases (by omega : j = 0 ∨ j = 1 ∨ j = 2 ∨ j = 3) with rfl | rfl | rfl | rfl <;> rw [h] <;> simp
theorem idx_rl (r : Rl) (i : Nat) (hi : i < 4) (w : World) : (Instr.index 261 (.agg (arrR r)) (.int .i64 (i : Int))).run Tryz.prog w = .ok (.int .i64 (rlN r i)) w := by
  obtain ⟨a, b, c, d⟩ := r
  rcases (by omega : i = 0 ∨ i = 1 ∨ i = 2 ∨ i = 3) with rfl | rfl | rfl | rfl <;> kernel_rfl
set_option maxRecDepth 20000 in
set_option maxHeartbeats 4000000 in
theorem right_all (r : Rl) (w : World) : Calls Tryz.prog 81 #[.agg (arrR r)] w fun e w' => e = .returned (.bool (rightB r)) ∧ Below w.heap.size w w' := by
  have hix := fun i hi w => idx_rl r i hi w
  obtain ⟨f, hf⟩ : ∃ f, rlN r = f := ⟨_, rfl⟩
  have hyes := @right_yes r
  have hno := fun (j : Nat) => @right_no r j
  obtain ⟨B, hB⟩ : ∃ B, rightB r = B := ⟨_, rfl⟩
  rw [hf] at hix hyes hno
  rw [hB] at hyes hno ⊢
  clear hB hf
  obtain ⟨a, b, c, d⟩ := r
  dsimp only [arrR] at hix ⊢
  obtain ⟨w1, hw1⟩ : ∃ w1, w.alloc (.cells #[.int .i64 a, .int .i64 b, .int .i64 c, .int .i64 d] 26) = w1 := ⟨_, rfl⟩
  have hb1 : Below w.heap.size w w1 := hw1 ▸ (Below.refl _ _).alloc (Nat.le_refl _) _
  have hg1 : w1.heap[w.heap.size]? = some (.cells #[.int .i64 a, .int .i64 b, .int .i64 c, .int .i64 d] 26 (0, 0)) := hw1 ▸ blk_new _ _ _
  have cc := blk_cell hg1
  clear hg1
  replace hb1 := hide hb1
  replace hix := hide hix
  replace hyes := hide hyes
  replace hno := hide hno
  go_enter Tryz.func81, Tryz.ntmps81
  go_wp2_with fail
  clear cc hw1
  go_loopw [4, 14] (fun _ iv wr => ∃ i : Nat, i ≤ 4 ∧ iv = .int .i64 (i : Int) ∧ (∀ j < i, okN (f j) = true) ∧ w1 = wr) (fun _ iv _ => 4 - (intOf iv).toNat)
  case atStart => exact ⟨0, by omega, rfl, fun j hj => absurd hj (Nat.not_lt_zero _), by first | rfl | trivial⟩
  case round =>
    obtain ⟨i, hi, rfl, hall, rfl⟩ := hrel
    by_cases hi4 : i < 4
    · have hv := hix.out i hi4 w1
      obtain ⟨v, hv0⟩ : ∃ v, f i = v := ⟨_, rfl⟩
      rw [hv0] at hv
      have wi1 : IntKind.i64.wrap ((i : Int) + 1) = ((i + 1 : Nat) : Int) := by rw [wraps62 _ (by omega) (by omega)]; omega
      have hlt : (i : Int) < 4 := by omega
      replace hall := hide hall
      replace hv0 := hide hv0
      by_cases g1 : v < 1
      · have hR : B = false := hno.out i hi4 (by rw [hv0.out]; unfold okN; rw [decide_eq_false (by omega)]; rfl)
        replace hR := hide hR
        go_wp2_with fail
        go_ret
        exact ⟨by rw [hR.out]; first | done | rfl, hb1.out⟩
      · by_cases g2 : (1073741824 : Int) < v
        · have hR : B = false := hno.out i hi4 (by rw [hv0.out]; unfold okN; rw [decide_eq_false (show ¬ v ≤ 1073741824 by omega)]; simp)
          replace hR := hide hR
          go_wp2_with fail
          go_ret
          exact ⟨by rw [hR.out]; first | done | rfl, hb1.out⟩
        · have hn : ∀ j < i + 1, okN (f j) = true := fun j hj => by
            rcases Nat.lt_or_ge j i with h | h
            · exact hall.out j h
            · rw [show j = i by omega, hv0.out]
              unfold okN
              rw [decide_eq_true (by omega), decide_eq_true (by omega)]
              rfl
          replace hn := hide hn
          go_wp2_with fail
          exact ⟨⟨i + 1, by omega, by first | rfl | go_num, hn.out, by first | rfl | trivial⟩, by simp only [intOf]; omega⟩
    · obtain rfl : i = 4 := by omega
      have hR : B = true := hyes.out hall
      replace hR := hide hR
      replace hall := hide hall
      go_wp2_with fail
      go_ret
      exact ⟨by rw [hR.out]; first | done | rfl, hb1.out⟩
theorem info_pl : (Tryz.prog.info? 216).map (fun i => (i.zero, i.size, i.bytes)) = some (some (.agg #[.int .i64 0, .bool false, .int .u64 0, .int .u64 0, .bool false, .int .u64 0, .int .u64 0, .int .i64 0, .int .i64 0, .int .i64 0, .int .i64 0, .int .i64 0, .bool false, .int .i64 0, .int .i64 0]), 15, 120) := by kernel_rfl
/-- A table without flows. -/
def TabE (w : World) (f : Nat) : Prop := ∃ (s : Nat) (m : Int) (l : Value), 1 ≤ m ∧ w.heap[f]? = some (.cells #[.int .u64 (s : Int), .int .i64 m, l, .int .i64 0, .int .i64 (-1), .int .i64 (-1)] 155 (0, 0))
def okM (m : Int) : Bool := decide (1 ≤ m) && decide (m ≤ 4096)
def FNew (m : Int) (w : World) (e : Ending) (w' : World) : Prop := ((okM m = true ∧ ∃ f, e = .returned (.tuple #[.pointer (some ⟨f, 0, none⟩), .int .i64 0]) ∧ TabE w' f ∧ w.heap.size ≤ f) ∨ (okM m = false ∧ e = .returned (.tuple #[.pointer none, .int .i64 1]))) ∧ Below w.heap.size w w'
set_option maxRecDepth 20000 in
set_option maxHeartbeats 4000000 in
theorem fnew_all (m : Int) (seed : Nat) (w : World) : Calls Tryz.prog 82 #[.int .i64 m, .int .u64 (seed : Int)] w fun e w' => FNew m w e w' := by
  by_cases h1 : m < 1
  · have hfin : FNew m w (.returned (.tuple #[.pointer none, .int .i64 1])) w := ⟨.inr ⟨by unfold okM; rw [decide_eq_false (by omega)]; rfl, rfl⟩, Below.refl _ _⟩
    replace hfin := hide hfin
    go_enter Tryz.func82, Tryz.ntmps82
    go_wp2_with fail
    go_ret2
    exact hfin.out
  by_cases h2 : (4096 : Int) < m
  · have hfin : FNew m w (.returned (.tuple #[.pointer none, .int .i64 1])) w := ⟨.inr ⟨by unfold okM; rw [decide_eq_false (show ¬ m ≤ 4096 by omega)]; simp, rfl⟩, Below.refl _ _⟩
    replace hfin := hide hfin
    go_enter Tryz.func82, Tryz.ntmps82
    go_wp2_with fail
    go_ret2
    exact hfin.out
  have hok : okM m = true := by unfold okM; rw [decide_eq_true (by omega), decide_eq_true (by omega)]; rfl
  have hm1 : 1 ≤ m := by omega
  obtain ⟨m, rfl⟩ : ∃ k : Nat, m = (k : Int) := ⟨m.toNat, by omega⟩
  have t1 : decide ((m : Int) < 1) = false := by rw [decide_eq_false_iff_not]; omega
  have t2 : decide ((4096 : Int) < (m : Int)) = false := by rw [decide_eq_false_iff_not]; omega
  have t2b : decide (4096 < m) = false := by rw [decide_eq_false_iff_not]; omega
  have t3 : ¬ m < 1 := by omega
  have w2m : IntKind.i64.wrap (2 * (m : Int)) = 2 * (m : Int) := by rw [IntKind.wrap_i64]; omega
  replace hok := hide hok
  go_enter Tryz.func82, Tryz.ntmps82
  go_wp2_with fail
  go_loopw [6] (fun sv wr => ∃ s : Nat, sv = .int .i64 (s : Int) ∧ 2 ≤ s ∧ s ≤ 16384 ∧ w = wr) (fun sv _ => 16384 - (intOf sv).toNat)
  case atStart => exact ⟨2, rfl, by omega, by omega, rfl⟩
  case round =>
    obtain ⟨s, rfl, hs2, hs4, rfl⟩ := hrel
    by_cases hsm : s < 2 * m
    · have c1 : (s : Int) < 2 * (m : Int) := by omega
      have e1 : IntKind.i64.wrap ((s : Int) * 2) = ((s * 2 : Nat) : Int) := by rw [IntKind.wrap_i64]; omega
      go_wp2_with fail
      exact ⟨⟨s * 2, by first | rfl | go_num, by omega, by omega, by first | rfl | trivial⟩, by simp only [intOf]; omega⟩
    · have c1 : ¬ (s : Int) < 2 * (m : Int) := by omega
      obtain ⟨w2, hmk, hb2, hz2⟩ := make_zero Tryz.underlying153 info_pl (by decide) s (by omega) w
      obtain ⟨w3, hw3⟩ : ∃ w3, w2.alloc (.cells #[.int .u64 (seed : Int), .int .i64 (m : Int), .slice (some ⟨w.heap.size, 0, none⟩) s s, .int .i64 0, .int .i64 (-1), .int .i64 (-1)] 155) = w3 := ⟨_, rfl⟩
      have hb3 : Below w2.heap.size w2 w3 := hw3 ▸ (Below.refl _ _).alloc (Nat.le_refl _) _
      have hg3 : w3.heap[w2.heap.size]? = some (.cells #[.int .u64 (seed : Int), .int .i64 (m : Int), .slice (some ⟨w.heap.size, 0, none⟩) s s, .int .i64 0, .int .i64 (-1), .int .i64 (-1)] 155 (0, 0)) := hw3 ▸ blk_new _ _ _
      have hT3 : TabE w3 w2.heap.size := ⟨seed, m, _, hm1, hg3⟩
      have hB3 := hb2.trans (hb3.mono (by omega))
      rw [hz2] at hT3
      clear hb2 hb3 hg3
      replace hT3 := hide hT3
      replace hB3 := hide hB3
      go_wp2_with fail
      clear hmk hw3
      go_ret2
      exact ⟨.inl ⟨hok.out, _, rfl, hT3.out, by omega⟩, hB3.out⟩
/-- Pins without flows. -/
def PinE (w : World) (p : Nat) : Prop := ∃ (f : Nat) (r : Rl), w.heap[p]? = some (.cells #[.pointer (some ⟨f, 0, none⟩), .int .i64 r.a, .int .i64 r.b, .int .i64 r.c, .int .i64 r.d, .int .i64 0] 72 (0, 0)) ∧ TabE w f
theorem TabE.on {w w' : World} {f : Nat} (h : TabE w f) (hb : w'.heap[f]? = w.heap[f]?) : TabE w' f := by
  obtain ⟨s, m, l, h1, h2⟩ := h
  exact ⟨s, m, l, h1, hb.trans h2⟩
theorem TabE.lt {w : World} {f : Nat} (h : TabE w f) : f < w.heap.size := by
  obtain ⟨s, m, l, h1, h2⟩ := h
  exact lt_of_blk h2
theorem build_pe {op : Oper} (f : Nat) (r : Rl) (ev : Operand → Value) (x y : Operand) (ho : op.op = .build 72 #[(0, x), (1, y)]) (hx : ev x = .pointer (some ⟨f, 0, none⟩)) (hy : ev y = .agg (arrR r)) (w : World) : (execOp ev op).run Tryz.prog w = .ok (.value (.agg #[.pointer (some ⟨f, 0, none⟩), .int .i64 r.a, .int .i64 r.b, .int .i64 r.c, .int .i64 r.d, .int .i64 0])) w := by
  have h : (Instr.build 72 #[(0, ev x), (1, ev y)]).run Tryz.prog w = .ok (.agg #[.pointer (some ⟨f, 0, none⟩), .int .i64 r.a, .int .i64 r.b, .int .i64 r.c, .int .i64 r.d, .int .i64 0]) w := by
    rw [hx, hy]
    obtain ⟨a, b, c, d⟩ := r
    kernel_rfl
  have h3 : ∀ A, A = #[(0, ev x), (1, ev y)] → Sem.run Tryz.prog (do let v ← Instr.build 72 A; pure (Next.value v)) w = .ok (.value (.agg #[.pointer (some ⟨f, 0, none⟩), .int .i64 r.a, .int .i64 r.b, .int .i64 r.c, .int .i64 r.d, .int .i64 0])) w := by
    rintro _ rfl
    simp only [Sem.run_bind, Sem.run_pure, h, Result.andThen_ok]
  unfold execOp
  simp only [ho]
  exact h3 _ (by simp)
theorem size_rl : (Tryz.prog.info? 26).map (·.size) = some 4 := by kernel_rfl
def okP (m : Int) (r : Rl) : Bool := rightB r && okM m
def PNew (m : Int) (r : Rl) (w : World) (e : Ending) (w' : World) : Prop := ((okP m r = true ∧ ∃ p, e = .returned (.tuple #[.pointer (some ⟨p, 0, none⟩), .int .i64 0]) ∧ PinE w' p ∧ w.heap.size ≤ p) ∨ (okP m r = false ∧ e = .returned (.tuple #[.pointer none, .int .i64 1]))) ∧ Below w.heap.size w w'
set_option maxRecDepth 20000 in
set_option maxHeartbeats 4000000 in
theorem pnew_all (m : Int) (seed : Nat) (r : Rl) (w : World) : Calls Tryz.prog 44 #[.int .i64 m, .int .u64 (seed : Int), .agg (arrR r)] w fun e w' => PNew m r w e w' := by
  have qr := fun w => right_all r w
  have qn := fun w => fnew_all m seed w
  obtain ⟨B, hB⟩ : ∃ B, rightB r = B := ⟨_, rfl⟩
  rw [hB] at qr
  obtain ⟨w1, hw1⟩ : ∃ w1, w.alloc (.cells (arrR r) 26) = w1 := ⟨_, rfl⟩
  have hb1 : Below w.heap.size w w1 := hw1 ▸ (Below.refl _ _).alloc (Nat.le_refl _) _
  have hg1 : w1.heap[w.heap.size]? = some (.cells (arrR r) 26 (0, 0)) := hw1 ▸ blk_new _ _ _
  obtain ⟨z, hz⟩ : ∃ z, w.heap.size = z := ⟨_, rfl⟩
  rw [hz] at hb1 hg1
  have hzl := (Array.getElem?_eq_some_iff.1 hg1).1
  have lr : w1.rangeAt z 0 (rlL r) := blk_range (cs := arrR r) hg1
  replace qr := hide qr
  replace qn := hide qn
  replace hb1 := hide hb1
  replace hg1 := hide hg1
  replace lr := hide lr
  replace hB := hide hB
  go_enter Tryz.func44, Tryz.ntmps44
  go_upto_region 1 with fail
  clear hw1
  apply wp_region_lit
  refine wpList_load_mid rfl 26 (.tmp 5) rfl z 0 rfl (rlL r) _ lr.out Tryz.underlying26 rfl size_rl ?_
  refine wpList_plain rfl fun K hK => ?_
  go_simp
  refine ((qr.out w1)).mono ?_
  rintro e w2 ⟨rfl, hb2⟩
  go_simp
  refine hK _ _ ?_
  clear hK K
  iterate 1 (refine wpList_plain rfl fun K hK => ?_; go_simp; refine hK _ _ ?_; clear hK K)
  refine wpList_nil ?_
  go_simp
  have hg2 := blk_on hb2 hg1.out
  have hB2 := hb1.out.trans (hb2.mono (by omega))
  have hz2 := hb2.size
  clear hb1 hg1 lr hb2 qr
  replace hg2 := hide hg2
  replace hB2 := hide hB2
  rcases B with _ | _
  · have hfin : PNew m r w (.returned (.tuple #[.pointer none, .int .i64 1])) w2 := ⟨.inr ⟨by unfold okP; rw [hB.out]; rfl, rfl⟩, by rw [hz]; exact hB2.out⟩
    replace hfin := hide hfin
    go_wp2_with fail
    go_ret2
    exact hfin.out
  go_wp2_with fail
  refine (qn.out w2).mono ?_
  rintro e w3 ⟨⟨hok, f, rfl, hT3, hf⟩ | ⟨hok, rfl⟩, hb3⟩
  case inr =>
    have hfin : PNew m r w (.returned (.tuple #[.pointer none, .int .i64 1])) w3 := ⟨.inr ⟨by unfold okP; rw [hok, hB.out]; rfl, rfl⟩, by rw [hz]; exact hB2.out.trans (hb3.mono (by omega))⟩
    clear hb3
    replace hfin := hide hfin
    go_wp2_with fail
    go_ret2
    exact hfin.out
  have hg3 := blk_on hb3 hg2.out
  have hB3 := hB2.out.trans (hb3.mono (by omega))
  have hz3 := hb3.size
  have lr : w3.rangeAt z 0 (rlL r) := blk_range (cs := arrR r) hg3
  obtain ⟨w4, hw4⟩ : ∃ w4, w3.alloc (.cells #[.pointer (some ⟨f, 0, none⟩), .int .i64 r.a, .int .i64 r.b, .int .i64 r.c, .int .i64 r.d, .int .i64 0] 72) = w4 := ⟨_, rfl⟩
  have hb4 : Below w3.heap.size w3 w4 := hw4 ▸ (Below.refl _ _).alloc (Nat.le_refl _) _
  have hg4 : w4.heap[w3.heap.size]? = some (.cells #[.pointer (some ⟨f, 0, none⟩), .int .i64 r.a, .int .i64 r.b, .int .i64 r.c, .int .i64 r.d, .int .i64 0] 72 (0, 0)) := hw4 ▸ blk_new _ _ _
  have hP4 : PinE w4 w3.heap.size := ⟨f, r, hg4, hT3.on (hb4.block f hT3.lt)⟩
  have hB4 := hB3.trans (hb4.mono (by omega))
  obtain ⟨q, hq⟩ : ∃ q, w3.heap.size = q := ⟨_, rfl⟩
  rw [hq] at hP4
  have hokp : okP m r = true := by unfold okP; rw [hB.out, hok]; rfl
  clear qn hT3 hb3 hg2 hB2 hg3 hB3 hb4 hg4
  replace hP4 := hide hP4
  replace hB4 := hide hB4
  replace lr := hide lr
  replace hokp := hide hokp
  go_upto_region 6 with fail
  apply wp_region_lit
  iterate 1 (refine wpList_plain rfl fun K hK => ?_; go_simp; refine hK _ _ ?_; clear hK K)
  refine wpList_load_mid rfl 26 (.tmp 5) rfl z 0 rfl (rlL r) _ lr.out Tryz.underlying26 rfl size_rl ?_
  refine wpl_val (.agg #[.pointer (some ⟨f, 0, none⟩), .int .i64 r.a, .int .i64 r.b, .int .i64 r.c, .int .i64 r.d, .int .i64 0]) rfl (build_pe f r _ (.tmp 22) (.tmp 23) rfl rfl rfl w3) ?_
  iterate 1 (refine wpList_plain rfl fun K hK => ?_; go_simp; refine hK _ _ ?_; clear hK K)
  clear hw4
  iterate 2 (refine wpList_plain rfl fun K hK => ?_; go_simp; refine hK _ _ ?_; clear hK K)
  refine wpList_nil ?_
  go_simp
  go_wp2_with fail
  go_ret2
  exact ⟨.inl ⟨hokp.out, q, rfl, hP4.out, by omega⟩, by rw [hz]; exact hB4.out⟩
end Mach33
end Go.Proofs.YtdneeablghlemaaGreatDoor
