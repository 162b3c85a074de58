/- Plain: ops as bytes, and read again. No condition. -/
import Derived.Test.YtniieckjooahfaaBePlain
import Derived.Test.YtniieckjooahfaaBeBack
namespace Go.Proofs.Ytniieckjooahfaa
namespace Snap
/-- A reader: what is left, and the first error. -/
abbrev St := List UInt8 × Int
def failS (e : Int) (s : St) : St := (s.1, if s.2 = 0 then e else s.2)
def rawS (k : Nat) (s : St) : St := if s.1.length < k then failS 2 s else if s.2 ≠ 0 then s else (s.1.drop k, 0)
def rawX (k : Nat) (s : St) : List UInt8 := if s.1.length < k then [] else if s.2 ≠ 0 then [] else s.1.take k
def numV (k : Nat) (s : St) : Nat := beN (rawX k s) 0 (rawX k s).length
structure Op where
  k : Int
  xs : List UInt8
  s : List UInt8
  h : Int
  n : Int
  up : Bool
def okOp (o : Op) : Prop := 0 ≤ o.k ∧ o.k ≤ 255 ∧ o.xs.length ≤ 65536 ∧ o.s.length ≤ 255 ∧ 0 ≤ o.h ∧ o.h < 4294967296 ∧ 0 ≤ o.n ∧ o.n < 4294967296
instance (o : Op) : Decidable (okOp o) := by unfold okOp; infer_instance
def encP (o : Op) : List UInt8 :=
  [UInt8.ofNat o.k.toNat, if o.up then 1 else 0] ++ (beB o.h.toNat 4 ++ (beB o.n.toNat 4 ++ (beB o.xs.length 4 ++ (o.xs ++ ([UInt8.ofNat o.s.length] ++ o.s)))))
def magic : List UInt8 := [68, 83, 84, 49]
def bodyL (l : List Op) : List UInt8 := (l.map encP).flatten
def encL (l : List Op) : List UInt8 := magic ++ (beB l.length 4 ++ bodyL l)
def upS (s : St) : St := if 1 < numV 1 s then failS 4 (rawS 1 s) else rawS 1 s
def lenS (s : St) : St := if 65536 < numV 4 s then failS 3 (rawS 4 s) else rawS 4 s
def getS (s : St) : St := 
  let s1 := rawS 1 s
  let s2 := upS s1
  let s3 := rawS 4 s2
  let s4 := rawS 4 s3
  let s5 := lenS s4
  let s6 := rawS (numV 4 s4) s5
  let s7 := rawS 1 s6
  rawS (numV 1 s6) s7
def getO (s : St) : Op :=
  let s1 := rawS 1 s
  let s2 := upS s1
  let s3 := rawS 4 s2
  let s4 := rawS 4 s3
  let s5 := lenS s4
  let s6 := rawS (numV 4 s4) s5
  let s7 := rawS 1 s6
  { k := numV 1 s, up := decide (numV 1 s1 = 1), h := numV 4 s2, n := numV 4 s3, xs := rawX (numV 4 s4) s5, s := rawX (numV 1 s6) s7 }
def getsS : Nat → St → St
  | 0, s => s
  | n + 1, s => if s.2 ≠ 0 then s else getsS n (getS s)
def getsL : Nat → St → List Op
  | 0, _ => []
  | n + 1, s => if s.2 ≠ 0 then [] else getO s :: getsL n (getS s)
def headS (b : List UInt8) : St := if rawX 4 (b, 0) ≠ magic then failS 4 (rawS 4 (b, 0)) else rawS 4 (b, 0)
def countS (s : St) : St := if 2048 < numV 4 s then failS 6 (rawS 4 s) else rawS 4 s
def endS (s : St) : St := if s.2 = 0 ∧ 0 < s.1.length then failS 3 s else s
def readS (b : List UInt8) : St := endS (getsS (numV 4 (headS b)) (countS (headS b)))
def readE (b : List UInt8) : Int := (readS b).2
def readL (b : List UInt8) : List Op := if readE b ≠ 0 then [] else getsL (numV 4 (headS b)) (countS (headS b))

theorem rawX_len (k : Nat) (s : St) : (rawX k s).length ≤ k := by
  unfold rawX
  split
  · simp
  · split
    · simp
    · rw [List.length_take]; omega
theorem numV_lt (k : Nat) (s : St) : numV k s < 256 ^ k := by
  have h1 := beN_lt (rawX k s) 0 (rawX k s).length
  exact Nat.lt_of_lt_of_le h1 (Nat.pow_le_pow_right (by omega) (rawX_len k s))
theorem failS_ok {e : Int} (he : e ≠ 0) {s : St} : (failS e s).2 ≠ 0 := by
  unfold failS
  simp only
  split
  · exact he
  · assumption
theorem rawS_bad {k : Nat} {s : St} (h : s.2 ≠ 0) : (rawS k s).2 ≠ 0 := by
  unfold rawS
  split
  · exact failS_ok (by omega)
  · first | exact h | (rw [if_pos h]; exact h)
theorem rawS_ok {k : Nat} {s : St} (h : (rawS k s).2 = 0) : s.2 = 0 ∧ k ≤ s.1.length ∧ rawS k s = (s.1.drop k, 0) ∧ rawX k s = s.1.take k := by
  have h0 : s.2 = 0 := Classical.byContradiction fun hn => rawS_bad hn h
  have h1 : ¬ s.1.length < k := fun hl => by
    unfold rawS at h
    rw [if_pos hl] at h
    exact failS_ok (by omega) h
  refine ⟨h0, by omega, ?_, ?_⟩
  · unfold rawS; rw [if_neg h1, if_neg (by simpa using h0)]
  · unfold rawX; rw [if_neg h1, if_neg (by simpa using h0)]
theorem rawS_app (a r : List UInt8) (k : Nat) (hk : a.length = k) : rawS k (a ++ r, 0) = (r, 0) ∧ rawX k (a ++ r, 0) = a := by
  subst hk
  unfold rawS rawX
  rw [if_neg (by simp), if_neg (by simp), if_neg (by simp), if_neg (by simp)]
  simp
theorem numV_app (N k : Nat) (hN : N < 256 ^ k) (r : List UInt8) : numV k (beB N k ++ r, 0) = N ∧ rawS k (beB N k ++ r, 0) = (r, 0) := by
  obtain ⟨h1, h2⟩ := rawS_app (beB N k) r k (beB_length N k)
  refine ⟨?_, h1⟩
  unfold numV
  rw [h2, beB_length]
  have := beN_put N k [] [] 0 rfl hN
  simpa using this
theorem numV_ok {k : Nat} {s : St} (h : (rawS k s).2 = 0) : s.1 = beB (numV k s) k ++ (rawS k s).1 ∧ s.2 = 0 := by
  obtain ⟨h0, hl, h1, h2⟩ := rawS_ok h
  refine ⟨?_, h0⟩
  unfold numV
  rw [h1, h2, List.length_take, Nat.min_eq_left hl, beB_beNM _ _ _ (by rw [List.length_take]; omega), List.drop_zero, List.take_take, Nat.min_self]
  exact (List.take_append_drop _ _).symm
theorem numV_one (N : Nat) (hN : N < 256) (r : List UInt8) : numV 1 (UInt8.ofNat N :: r, 0) = N ∧ rawS 1 (UInt8.ofNat N :: r, 0) = (r, 0) := by
  have := numV_app N 1 (by simpa using hN) r
  simpa [beB] using this
/-- Ops that may be are read again, of their bytes. -/
theorem get_enc (o : Op) (h : okOp o) (r : List UInt8) : getS (encP o ++ r, 0) = (r, 0) ∧ getO (encP o ++ r, 0) = o := by
  obtain ⟨h1, h2, h3, h4, h5, h6, h7, h8⟩ := h
  obtain ⟨k, xs, s, hh, n, up⟩ := o
  simp only at h1 h2 h3 h4 h5 h6 h7 h8
  obtain ⟨k, rfl⟩ : ∃ j : Nat, k = (j : Int) := ⟨k.toNat, by omega⟩
  obtain ⟨hh, rfl⟩ : ∃ j : Nat, hh = (j : Int) := ⟨hh.toNat, by omega⟩
  obtain ⟨n, rfl⟩ : ∃ j : Nat, n = (j : Int) := ⟨n.toNat, by omega⟩
  obtain ⟨u, hu, hub⟩ : ∃ u : Nat, (if up then (1 : UInt8) else 0) = UInt8.ofNat u ∧ (u = if up then 1 else 0) := ⟨if up then 1 else 0, by cases up <;> rfl, rfl⟩
  have hu1 : u ≤ 1 := by cases up <;> simp at hub <;> omega
  have e : encP ⟨(k : Int), xs, s, (hh : Int), (n : Int), up⟩ ++ r = UInt8.ofNat k :: (UInt8.ofNat u :: (beB hh 4 ++ (beB n 4 ++ (beB xs.length 4 ++ (xs ++ (UInt8.ofNat s.length :: (s ++ r))))))) := by
    simp [encP, hu]
  obtain ⟨a1, b1⟩ := numV_one k (by omega) (UInt8.ofNat u :: (beB hh 4 ++ (beB n 4 ++ (beB xs.length 4 ++ (xs ++ (UInt8.ofNat s.length :: (s ++ r)))))))
  obtain ⟨a2, b2⟩ := numV_one u (by omega) (beB hh 4 ++ (beB n 4 ++ (beB xs.length 4 ++ (xs ++ (UInt8.ofNat s.length :: (s ++ r))))))
  obtain ⟨a3, b3⟩ := numV_app hh 4 (by omega) (beB n 4 ++ (beB xs.length 4 ++ (xs ++ (UInt8.ofNat s.length :: (s ++ r)))))
  obtain ⟨a4, b4⟩ := numV_app n 4 (by omega) (beB xs.length 4 ++ (xs ++ (UInt8.ofNat s.length :: (s ++ r))))
  obtain ⟨a5, b5⟩ := numV_app xs.length 4 (by omega) (xs ++ (UInt8.ofNat s.length :: (s ++ r)))
  obtain ⟨b6, a6⟩ := rawS_app xs (UInt8.ofNat s.length :: (s ++ r)) xs.length rfl
  obtain ⟨a7, b7⟩ := numV_one s.length (by omega) (s ++ r)
  obtain ⟨b8, a8⟩ := rawS_app s r s.length rfl
  have u2 : upS (UInt8.ofNat u :: (beB hh 4 ++ (beB n 4 ++ (beB xs.length 4 ++ (xs ++ (UInt8.ofNat s.length :: (s ++ r)))))), 0) = (beB hh 4 ++ (beB n 4 ++ (beB xs.length 4 ++ (xs ++ (UInt8.ofNat s.length :: (s ++ r))))), 0) := by
    unfold upS; rw [a2, if_neg (by omega), b2]
  have u5 : lenS (beB xs.length 4 ++ (xs ++ (UInt8.ofNat s.length :: (s ++ r))), 0) = (xs ++ (UInt8.ofNat s.length :: (s ++ r)), 0) := by
    unfold lenS; rw [a5, if_neg (by omega), b5]
  constructor
  · unfold getS
    simp only [e, b1, u2, b3, b4, a5, u5, b6, a7, b7, b8]
  · unfold getO
    simp only [e, a1, b1, a2, u2, a3, b3, a4, b4, a5, u5, a6, b6, a7, b7, a8]
    cases up <;> simp at hub <;> subst hub <;> simp
theorem gets_enc : ∀ (l : List Op), (∀ o ∈ l, okOp o) → ∀ r, getsS l.length (bodyL l ++ r, 0) = (r, 0) ∧ getsL l.length (bodyL l ++ r, 0) = l
  | [], _, r => by simp [getsS, getsL, bodyL]
  | o :: l, h, r => by
    obtain ⟨h1, h2⟩ := get_enc o (h o (by simp)) (bodyL l ++ r)
    obtain ⟨i1, i2⟩ := gets_enc l (fun x hx => h x (by simp [hx])) r
    have e : bodyL (o :: l) ++ r = encP o ++ (bodyL l ++ r) := by simp [bodyL]
    rw [e]
    simp only [List.length_cons, getsS, getsL, ne_eq, not_true, if_false, h1, h2, i1, i2, and_self]
theorem read_enc (l : List Op) (h : ∀ o ∈ l, okOp o) (hl : l.length ≤ 2048) : readE (encL l) = 0 ∧ readL (encL l) = l := by
  obtain ⟨b1, a1⟩ := rawS_app magic (beB l.length 4 ++ bodyL l) 4 rfl
  have hs : headS (encL l) = (beB l.length 4 ++ bodyL l, 0) := by
    unfold headS encL
    rw [a1, if_neg (by simp), b1]
  obtain ⟨a2, b2⟩ := numV_app l.length 4 (by omega) (bodyL l)
  have hc : countS (beB l.length 4 ++ bodyL l, 0) = (bodyL l, 0) := by
    unfold countS
    rw [a2, if_neg (by omega), b2]
  obtain ⟨g1, g2⟩ := gets_enc l h []
  rw [List.append_nil] at g1 g2
  have he : readE (encL l) = 0 := by
    unfold readE readS
    rw [hs, a2, hc, g1]
    simp [endS]
  refine ⟨he, ?_⟩
  unfold readL
  rw [he, if_neg (by simp), hs, a2, hc, g2]
/-- What is read without an error is the bytes of what was read. -/
theorem failS_off {c : Prop} [Decidable c] {e : Int} (he : e ≠ 0) {s : St} (h : (if c then failS e s else s).2 = 0) : ¬ c ∧ s.2 = 0 := by
  by_cases hc : c
  · rw [if_pos hc] at h
    exact absurd h (failS_ok he)
  · rw [if_neg hc] at h
    exact ⟨hc, h⟩
theorem get_bad {s : St} (h : s.2 ≠ 0) : (getS s).2 ≠ 0 := by
  have hf : ∀ (e : Int) (c : Prop) [Decidable c] (s : St), e ≠ 0 → s.2 ≠ 0 → (if c then failS e s else s).2 ≠ 0 := by
    intro e c _ s he hs
    split
    · exact failS_ok he
    · exact hs
  unfold getS upS lenS
  exact rawS_bad (rawS_bad (rawS_bad (hf _ _ _ (by omega) (rawS_bad (rawS_bad (rawS_bad (hf _ _ _ (by omega) (rawS_bad (rawS_bad h)))))))))
theorem get_back {s : St} (h : (getS s).2 = 0) : okOp (getO s) ∧ s.1 = encP (getO s) ++ (getS s).1 ∧ s.2 = 0 := by
  unfold getS getO at *
  simp only at h ⊢
  generalize e1 : rawS 1 s = s1 at *
  generalize e2 : upS s1 = s2 at *
  generalize e3 : rawS 4 s2 = s3 at *
  generalize e4 : rawS 4 s3 = s4 at *
  generalize e5 : lenS s4 = s5 at *
  generalize e6 : rawS (numV 4 s4) s5 = s6 at *
  generalize e7 : rawS 1 s6 = s7 at *
  obtain ⟨h7, l8, r8, x8⟩ := rawS_ok h
  rw [← e7] at h7
  obtain ⟨i7, h6⟩ := numV_ok h7
  rw [← e6] at h6
  obtain ⟨h5, l6, r6, x6⟩ := rawS_ok h6
  have e5' := e5
  rw [← e5] at h5
  unfold lenS at h5
  obtain ⟨c5, h5⟩ := failS_off (by omega) h5
  unfold lenS at e5'
  rw [if_neg c5] at e5'
  obtain ⟨i5, h4⟩ := numV_ok h5
  rw [← e4] at h4
  obtain ⟨i4, h3⟩ := numV_ok h4
  rw [← e3] at h3
  obtain ⟨i3, h2⟩ := numV_ok h3
  have e2' := e2
  rw [← e2] at h2
  unfold upS at h2
  obtain ⟨c2, h2⟩ := failS_off (by omega) h2
  unfold upS at e2'
  rw [if_neg c2] at e2'
  obtain ⟨i2, h1⟩ := numV_ok h2
  rw [← e1] at h1
  obtain ⟨i1, h0⟩ := numV_ok h1
  have v1 := numV_lt 1 s
  have v2 := numV_lt 1 s1
  have v3 := numV_lt 4 s2
  have v4 := numV_lt 4 s3
  have v5 := numV_lt 4 s4
  have v7 := numV_lt 1 s6
  have n8 : (rawX (numV 1 s6) s7).length = numV 1 s6 := by rw [x8, List.length_take]; omega
  have n6 : (rawX (numV 4 s4) s5).length = numV 4 s4 := by rw [x6, List.length_take]; omega
  refine ⟨⟨by simp only; omega, by simp only; omega, by simp only; omega, by simp only; omega, by simp only; omega, by simp only; omega, by simp only; omega, by simp only; omega⟩, ?_, h0⟩
  unfold encP
  simp only [n6, n8, Int.toNat_natCast]
  rw [e1] at i1
  rw [e2'] at i2
  rw [e3] at i3
  rw [e4] at i4
  rw [e5'] at i5
  rw [e7] at i7
  rw [r8] 
  have j8 : s7.1 = rawX (numV 1 s6) s7 ++ s7.1.drop (numV 1 s6) := by rw [x8, List.take_append_drop]
  have j6 : s5.1 = rawX (numV 4 s4) s5 ++ s6.1 := by rw [x6, ← e6, r6, List.take_append_drop]
  have b1 : ∀ N, beB N 1 = [UInt8.ofNat N] := fun N => by simp [beB]
  have b2 : beB (numV 1 s1) 1 = [if decide (numV 1 s1 = 1) = true then 1 else 0] := by
    rw [b1]
    rcases (by omega : numV 1 s1 = 0 ∨ numV 1 s1 = 1) with h | h <;> rw [h] <;> rfl
  rw [i1, i2, i3, i4, i5, j6, i7, b1 (numV 1 s), b1 (numV 1 s6), b2]
  conv => lhs; rw [j8]
  simp only [List.append_assoc, List.cons_append, List.nil_append]
theorem gets_bad : ∀ (n : Nat) (s : St), s.2 ≠ 0 → getsS n s = s
  | 0, _, _ => rfl
  | n + 1, s, h => by rw [getsS, if_pos h]
theorem gets_back : ∀ (n : Nat) (s : St), (getsS n s).2 = 0 → (∀ o ∈ getsL n s, okOp o) ∧ (getsL n s).length = n ∧ s.1 = bodyL (getsL n s) ++ (getsS n s).1 ∧ s.2 = 0
  | 0, s, h => ⟨fun o ho => (by cases ho), rfl, (by simp [getsL, getsS, bodyL]), h⟩
  | n + 1, s, h => by
    have h0 : s.2 = 0 := Classical.byContradiction fun hn => by
      rw [gets_bad _ _ hn] at h
      exact hn h
    have hn : ¬ s.2 ≠ 0 := fun hc => hc h0
    rw [getsS, if_neg hn] at h ⊢
    rw [getsL, if_neg hn]
    obtain ⟨i1, i2, i3, i4⟩ := gets_back n (getS s) h
    obtain ⟨j1, j2, j3⟩ := get_back i4
    refine ⟨fun o ho => ?_, by simp [i2], ?_, h0⟩
    · rcases List.mem_cons.1 ho with rfl | ho
      · exact j1
      · exact i1 o ho
    · conv => lhs; rw [j2, i3]
      simp [bodyL]
theorem read_back (b : List UInt8) (h : readE b = 0) : (∀ o ∈ readL b, okOp o) ∧ encL (readL b) = b ∧ (readL b).length ≤ 2048 := by
  have hL : readL b = getsL (numV 4 (headS b)) (countS (headS b)) := by unfold readL; rw [h, if_neg (by simp)]
  rw [hL]
  unfold readE readS at h
  generalize e1 : getsS (numV 4 (headS b)) (countS (headS b)) = sg at h
  have hg : sg.2 = 0 ∧ sg.1 = [] := by
    unfold endS at h
    obtain ⟨h1, h2⟩ := failS_off (by omega) h
    exact ⟨h2, List.eq_nil_of_length_eq_zero (by rcases Nat.eq_zero_or_pos sg.1.length with h3 | h3; exact h3; exact absurd ⟨h2, h3⟩ h1)⟩
  have hg1 : (getsS (numV 4 (headS b)) (countS (headS b))).2 = 0 := by rw [e1]; exact hg.1
  obtain ⟨i1, i2, i3, i4⟩ := gets_back _ _ hg1
  rw [e1, hg.2, List.append_nil] at i3
  have i4' := i4
  unfold countS at i4'
  obtain ⟨c1, h2⟩ := failS_off (by omega) i4'
  have hc : countS (headS b) = rawS 4 (headS b) := by unfold countS; rw [if_neg c1]
  obtain ⟨j1, j2⟩ := numV_ok h2
  have j2' := j2
  unfold headS at j2'
  obtain ⟨c3, h3⟩ := failS_off (by omega) j2'
  have hh : headS b = rawS 4 (b, 0) := by unfold headS; rw [if_neg c3]
  obtain ⟨_, l4, r4, x4⟩ := rawS_ok h3
  refine ⟨i1, ?_, by omega⟩
  unfold encL
  rw [i2, ← i3, hc, ← j1, hh, r4]
  have hm : magic = b.take 4 := by
    have : rawX 4 (b, 0) = magic := Classical.byContradiction c3
    rw [← this, x4]
  rw [hm]
  simp only
  rw [List.take_append_drop]
/-- Which errors there are. -/
def knownE (e : Int) : Prop := e = 0 ∨ e = 2 ∨ e = 3 ∨ e = 4 ∨ e = 6
theorem failS_known {e : Int} (he : knownE e) {s : St} (h : knownE s.2) : knownE (failS e s).2 := by
  unfold failS
  simp only
  split
  · exact he
  · exact h
theorem rawS_known {k : Nat} {s : St} (h : knownE s.2) : knownE (rawS k s).2 := by
  unfold rawS
  split
  · exact failS_known (.inr (.inl rfl)) h
  · split
    · exact h
    · exact .inl rfl
theorem if_known {c : Prop} [Decidable c] {e : Int} (he : knownE e) {s : St} (h : knownE s.2) : knownE (if c then failS e s else s).2 := by
  split
  · exact failS_known he h
  · exact h
theorem get_known {s : St} (h : knownE s.2) : knownE (getS s).2 := by
  unfold getS upS lenS
  exact rawS_known (rawS_known (rawS_known (if_known (.inr (.inr (.inl rfl))) (rawS_known (rawS_known (rawS_known (if_known (.inr (.inr (.inr (.inl rfl)))) (rawS_known (rawS_known h)))))))))
theorem gets_known : ∀ (n : Nat) (s : St), knownE s.2 → knownE (getsS n s).2
  | 0, _, h => h
  | n + 1, s, h => by
    rw [getsS]
    split
    · exact h
    · exact gets_known n _ (get_known h)
theorem head_known (b : List UInt8) : knownE (headS b).2 := by
  unfold headS
  exact if_known (.inr (.inr (.inr (.inl rfl)))) (rawS_known (.inl rfl))
theorem count_known {s : St} (h : knownE s.2) : knownE (countS s).2 := by
  unfold countS
  exact if_known (.inr (.inr (.inr (.inr rfl)))) (rawS_known h)
theorem read_known (b : List UInt8) : knownE (readE b) := by
  unfold readE readS endS
  exact if_known (.inr (.inr (.inl rfl))) (gets_known _ _ (count_known (head_known b)))
/-- An error stays. -/
theorem failS_stays {e f : Int} {s : St} (h : s.2 = f) (hf : f ≠ 0) : (failS e s).2 = f := by
  unfold failS
  simp only
  rw [if_neg (by rw [h]; exact hf), h]
theorem rawS_stays {k : Nat} {f : Int} {s : St} (h : s.2 = f) (hf : f ≠ 0) : (rawS k s).2 = f := by
  unfold rawS
  split
  · exact failS_stays h hf
  · rw [if_pos (by rw [h]; exact hf), h]
theorem read_stays (b : List UInt8) {f : Int} (h : (headS b).2 = f) (hf : f ≠ 0) : readE b = f := by
  have h1 : (countS (headS b)).2 = f := by
    unfold countS
    split
    · exact failS_stays (rawS_stays h hf) hf
    · exact rawS_stays h hf
  unfold readE readS
  rw [gets_bad _ _ (by rw [h1]; exact hf)]
  unfold endS
  rw [if_neg (fun hc => hf (h1 ▸ hc.1)), h1]
theorem read_short (b : List UInt8) (h : b.length < 4) : readE b = 2 := by
  refine read_stays b ?_ (by omega)
  have h1 : (rawS 4 (b, 0)).2 = 2 := by
    unfold rawS
    rw [if_pos h]
    rfl
  unfold headS
  split
  · exact failS_stays h1 (by omega)
  · exact h1
theorem read_other (b : List UInt8) (h : 4 ≤ b.length) (hm : b.take 4 ≠ magic) : readE b = 4 := by
  refine read_stays b ?_ (by omega)
  have hl : ¬ b.length < 4 := by omega
  have hr : rawS 4 (b, 0) = (b.drop 4, 0) := by simp [rawS, hl]
  have hx : rawX 4 (b, 0) = b.take 4 := by simp [rawX, hl]
  unfold headS
  rw [hr, hx, if_pos hm]
  rfl
end Snap
end Go.Proofs.Ytniieckjooahfaa
