/- pfx: plain: masks and bits of addresses. No condition. -/
import Derived.Test.YtcpokkkdmenmgaaDoorQConfRemarks6
import Derived.Test.YtcpokkkdmenmgaaDoorQConfRemarks5
import Derived.Test.YtcpokkkdmenmgaaDoorQConfRemarks4
namespace Go.Proofs.YtcpokkkdmenmgaaDoor
open Go.RowKit Go.ChangeShapes Go.WideShapes Go.ChangeAt Go.Deep
namespace Addr05
/-- A number whose last so many bits are 0. -/
def mkB (x k : Nat) : Nat := x / 2 ^ k * 2 ^ k
theorem mkB_le (x k : Nat) : mkB x k ≤ x := Nat.div_mul_le_self _ _
theorem testBit_mkB (x k j : Nat) : (mkB x k).testBit j = (decide (k ≤ j) && x.testBit j) := by
  unfold mkB
  rw [← Nat.shiftRight_eq_div_pow, ← Nat.shiftLeft_eq, Nat.testBit_shiftLeft, Nat.testBit_shiftRight]
  by_cases h : k ≤ j
  · simp [h]
  · simp [h]
theorem mkB_eq_iff (x k : Nat) : mkB x k = x ↔ ∀ j < k, x.testBit j = false := by
  constructor
  · intro h j hj
    have := testBit_mkB x k j
    rw [h] at this
    simpa [Nat.not_le.2 hj] using this
  · intro h
    apply Nat.eq_of_testBit_eq
    intro j
    rw [testBit_mkB]
    by_cases hk : k ≤ j
    · simp [hk]
    · simp [hk, h j (by omega)]
theorem mkB_eq_mkB_iff (x y k : Nat) : mkB x k = mkB y k ↔ ∀ j, k ≤ j → x.testBit j = y.testBit j := by
  constructor
  · intro h j hj
    have h1 := testBit_mkB x k j
    have h2 := testBit_mkB y k j
    rw [h, h2] at h1
    simpa [hj] using h1.symm
  · intro h
    apply Nat.eq_of_testBit_eq
    intro j
    rw [testBit_mkB, testBit_mkB]
    by_cases hk : k ≤ j
    · simp [hk, h j hk]
    · simp [hk]
theorem mod2_testBit (x j : Nat) : x / 2 ^ j % 2 = (x.testBit j).toNat := by
  rw [Nat.testBit_eq_decide_div_mod_eq]
  have : x / 2 ^ j % 2 < 2 := Nat.mod_lt _ (by omega)
  by_cases h : x / 2 ^ j % 2 = 1
  · simp [h]
  · have : x / 2 ^ j % 2 = 0 := by omega
    simp [this]
/-- How many bits. -/
def Adr.w (a : Adr) : Nat := if a.v6 then 128 else 32
/-- The number that an address's bits are. -/
def Adr.V (a : Adr) : Nat := if a.v6 then a.hi * 18446744073709551616 + a.lo else a.lo
/-- A bit, from the highest on. -/
def Adr.bit (a : Adr) (i : Nat) : Nat := if i < a.w then (if a.v6 then (if i < 64 then a.hi / 2 ^ (63 - i) % 2 else a.lo / 2 ^ (127 - i) % 2) else a.lo / 2 ^ (31 - i) % 2) else 0
theorem Adr.V_lo (a : Adr) (ho : a.ok) (h6 : a.v6 = true) (j : Nat) (hj : j < 64) : a.V.testBit j = a.lo.testBit j := by
  unfold Adr.V
  rw [if_pos h6, show a.hi * 18446744073709551616 = 2 ^ 64 * a.hi by omega, Nat.testBit_two_pow_mul_add _ ho.2, if_pos hj]
theorem Adr.V_hi (a : Adr) (ho : a.ok) (h6 : a.v6 = true) (j : Nat) (hj : 64 ≤ j) : a.V.testBit j = a.hi.testBit (j - 64) := by
  unfold Adr.V
  rw [if_pos h6, show a.hi * 18446744073709551616 = 2 ^ 64 * a.hi by omega, Nat.testBit_two_pow_mul_add _ ho.2, if_neg (by omega)]
theorem Adr.bit_V (a : Adr) (ho : a.ok) (i : Nat) (h : i < a.w) : a.bit i = (a.V.testBit (a.w - 1 - i)).toNat := by
  unfold Adr.bit
  rw [if_pos h]
  by_cases h6 : a.v6 = true
  · have hw : a.w = 128 := by unfold Adr.w; rw [if_pos h6]
    rw [hw] at h ⊢
    rw [if_pos h6]
    split
    · rw [mod2_testBit, a.V_hi ho h6 _ (by omega)]
      congr 2
      omega
    · rw [mod2_testBit, a.V_lo ho h6 _ (by omega)]
  · have hw : a.w = 32 := by unfold Adr.w; rw [if_neg h6]
    rw [hw] at h ⊢
    rw [if_neg h6, mod2_testBit]
    unfold Adr.V
    rw [if_neg h6]
/-- What Mask makes: at so many bits that there can be. -/
def Adr.mask (a : Adr) (b : Nat) : Adr := if a.v6 then ⟨true, mkB a.hi (64 - min b 64), mkB a.lo (64 - (b - 64))⟩ else ⟨false, a.hi, mkB a.lo (32 - b)⟩
theorem Adr.mask_v6 (a : Adr) (b : Nat) : (a.mask b).v6 = a.v6 := by
  unfold Adr.mask
  cases h : a.v6 <;> simp
theorem Adr.mask_w (a : Adr) (b : Nat) : (a.mask b).w = a.w := by unfold Adr.w; rw [Adr.mask_v6]
theorem Adr.mask_ok (a : Adr) (ho : a.ok) (b : Nat) : (a.mask b).ok := by
  unfold Adr.mask
  have h1 := ho.1
  have h2 := ho.2
  split
  · exact ⟨Nat.lt_of_le_of_lt (mkB_le _ _) h1, Nat.lt_of_le_of_lt (mkB_le _ _) h2⟩
  · exact ⟨h1, Nat.lt_of_le_of_lt (mkB_le _ _) h2⟩
theorem Adr.mask_right (a : Adr) (hr : a.right) (b : Nat) : (a.mask b).right := by
  unfold Adr.mask
  rcases hr with h | h
  · rw [if_pos h]; exact .inl rfl
  · split
    · exact .inl rfl
    · exact .inr ⟨h.1, Nat.lt_of_le_of_lt (mkB_le _ _) h.2⟩
theorem Adr.mask_V (a : Adr) (ho : a.ok) (b : Nat) (hb : b ≤ a.w) : (a.mask b).V = mkB a.V (a.w - b) := by
  apply Nat.eq_of_testBit_eq
  intro j
  rw [testBit_mkB]
  have ho' := a.mask_ok ho b
  by_cases h6 : a.v6 = true
  · have hw : a.w = 128 := by unfold Adr.w; rw [if_pos h6]
    rw [hw] at hb ⊢
    have hm6 : (a.mask b).v6 = true := by rw [a.mask_v6, h6]
    by_cases hj : j < 64
    · rw [(a.mask b).V_lo ho' hm6 j hj, a.V_lo ho h6 j hj]
      unfold Adr.mask
      rw [if_pos h6, testBit_mkB]
      congr 1
      by_cases h1 : 128 - b ≤ j
      · simp [h1]; omega
      · simp [h1]; omega
    · rw [(a.mask b).V_hi ho' hm6 j (by omega), a.V_hi ho h6 j (by omega)]
      unfold Adr.mask
      rw [if_pos h6, testBit_mkB]
      congr 1
      by_cases h1 : 128 - b ≤ j
      · simp [h1]; omega
      · simp [h1]; omega
  · have hw : a.w = 32 := by unfold Adr.w; rw [if_neg h6]
    rw [hw] at hb ⊢
    unfold Adr.mask Adr.V
    rw [if_neg h6, if_neg h6]
    exact testBit_mkB _ _ _
theorem Adr.ext_V (a b : Adr) (h6 : a.v6 = b.v6) (hoa : a.ok) (hob : b.ok) (hra : a.right) (hrb : b.right) (h : a.V = b.V) : a = b := by
  obtain ⟨v, hi, lo⟩ := a
  obtain ⟨v', hi', lo'⟩ := b
  dsimp only at h6
  subst h6
  unfold Adr.V at h
  obtain ⟨h1, h2⟩ := hoa
  obtain ⟨h3, h4⟩ := hob
  dsimp only at h h1 h2 h3 h4
  cases v
  · rcases hra with e | e
    · cases e
    · rcases hrb with e' | e'
      · cases e'
      · obtain ⟨rfl, _⟩ := e
        obtain ⟨rfl, _⟩ := e'
        simp at h
        simp [h]
  · simp only [if_true] at h
    have : hi = hi' := by omega
    have : lo = lo' := by omega
    simp [*]
theorem Adr.V_lt (a : Adr) (ho : a.ok) (hr : a.right) : a.V < 2 ^ a.w := by
  have h1 := ho.1
  have h2 := ho.2
  unfold Adr.V Adr.w
  split
  · have : (2 : Nat) ^ 128 = 18446744073709551616 * 18446744073709551616 := by decide
    rw [this]
    have : a.hi * 18446744073709551616 + 18446744073709551616 ≤ 18446744073709551616 * 18446744073709551616 := by omega
    omega
  · rename_i h6
    rcases hr with h | h
    · exact absurd h h6
    · exact h.2
/-- Masked is as it was: there are no bits behind. -/
theorem Adr.mask_eq (a : Adr) (ho : a.ok) (hr : a.right) (b : Nat) (hb : b ≤ a.w) : a.mask b = a ↔ ∀ i, b ≤ i → i < a.w → a.bit i = 0 := by
  have e1 : a.mask b = a ↔ (a.mask b).V = a.V := ⟨fun h => by rw [h], fun h => Adr.ext_V _ _ (a.mask_v6 b) (a.mask_ok ho b) ho (a.mask_right hr b) hr h⟩
  rw [e1, a.mask_V ho b hb, mkB_eq_iff]
  constructor
  · intro h i hi hw
    rw [a.bit_V ho i hw, h _ (by omega)]
    rfl
  · intro h j hj
    have h1 := h (a.w - 1 - j) (by omega) (by omega)
    rw [a.bit_V ho _ (by omega), show a.w - 1 - (a.w - 1 - j) = j by omega] at h1
    cases h2 : a.V.testBit j
    · rfl
    · rw [h2] at h1; cases h1
/-- Masked is a prefix's address: the first bits are alike. -/
theorem Adr.mask_eq2 (a p : Adr) (ho : a.ok) (hr : a.right) (hop : p.ok) (hrp : p.right) (h6 : a.v6 = p.v6) (b : Nat) (hb : b ≤ a.w) (hp : p.mask b = p) : a.mask b = p ↔ ∀ i, i < b → p.bit i = a.bit i := by
  have hw : a.w = p.w := by unfold Adr.w; rw [h6]
  have e1 : a.mask b = p ↔ (a.mask b).V = p.V := ⟨fun h => by rw [h], fun h => Adr.ext_V _ _ ((a.mask_v6 b).trans h6) (a.mask_ok ho b) hop (a.mask_right hr b) hrp h⟩
  have e2 : p.V = mkB p.V (p.w - b) := by
    have := p.mask_V hop b (by omega)
    rw [hp] at this
    exact this
  rw [e1, a.mask_V ho b hb, e2, ← hw, mkB_eq_mkB_iff]
  have hT : ∀ x y : Bool, x.toNat = y.toNat ↔ x = y := by decide
  constructor
  · intro h i hi
    rw [a.bit_V ho i (by omega), p.bit_V hop i (by omega), h _ (by omega), hw]
  · intro h j hj
    by_cases hjw : j < a.w
    · have h1 := h (a.w - 1 - j) (by omega)
      rw [a.bit_V ho _ (by omega), p.bit_V hop _ (by omega), hT, ← hw, show a.w - 1 - (a.w - 1 - j) = j by omega] at h1
      exact h1.symm
    · have hz : ∀ x : Nat, x < 2 ^ a.w → x.testBit j = false := fun x hx => Nat.testBit_lt_two_pow (Nat.lt_of_lt_of_le hx (Nat.pow_le_pow_right (by omega) (by omega)))
      rw [hz _ (a.V_lt ho hr), hz _ (by rw [hw]; exact p.V_lt hop hrp)]
/-- The bits of what Mask makes. -/
theorem Adr.mask_bit (a : Adr) (ho : a.ok) (b : Nat) (hb : b ≤ a.w) (i : Nat) (hi : i < a.w) : (a.mask b).bit i = if i < b then a.bit i else 0 := by
  rw [(a.mask b).bit_V (a.mask_ok ho b) i (by rw [a.mask_w]; exact hi), a.mask_V ho b hb, a.mask_w, testBit_mkB, a.bit_V ho i hi]
  by_cases h : i < b
  · rw [if_pos h]
    have : a.w - b ≤ a.w - 1 - i := by omega
    simp [this]
  · rw [if_neg h]
    have : ¬ a.w - b ≤ a.w - 1 - i := by omega
    simp [this]
end Addr05
end Go.Proofs.YtcpokkkdmenmgaaDoor
/- pfx: plain: what Parse makes of a text is the prefix whose text it is, or none; what Text makes is parsed again. No condition. -/
namespace Go.Proofs.YtcpokkkdmenmgaaDoor
open Go.RowKit Go.ChangeShapes Go.WideShapes Go.ChangeAt Go.Deep
namespace Addr05
instance (a : Adr) : Decidable a.right := by unfold Adr.right; infer_instance
deriving instance DecidableEq for Adr
/-- May a prefix be? -/
def Adr.rightP (a : Adr) (n : Nat) : Bool := decide (a.right ∧ n ≤ a.w ∧ a.mask n = a)
/-- The number that digits are. -/
def tailF : Nat → List UInt8 → Option Nat
  | n, [] => some n
  | n, c :: r => if 48 ≤ c.toNat ∧ c.toNat ≤ 57 then tailF (10 * n + (c.toNat - 48)) r else none
def pfxF (s : List UInt8) : Option (Adr × Nat) :=
  match parseF (Lib.cut s [47]).1 with
  | none => none
  | some a => if (Lib.cut s [47]).2.2 = false ∨ (Lib.cut s [47]).2.1.length < 1 ∨ 3 < (Lib.cut s [47]).2.1.length then none else match tailF 0 (Lib.cut s [47]).2.1 with
    | none => none
    | some n => if a.rightP n = true ∧ digL 10 n = (Lib.cut s [47]).2.1 then some (a, n) else none
def textP (a : Adr) (n : Nat) : List UInt8 := textA a ++ 47 :: digL 10 n
theorem hexC_dec : ∀ d, d < 10 → 48 ≤ (hexC d).toNat ∧ (hexC d).toNat ≤ 57 ∧ (hexC d).toNat - 48 = d := by decide
theorem tailF_cons (n d : Nat) (r : List UInt8) (hd : d < 10) : tailF n (hexC d :: r) = tailF (10 * n + d) r := by
  obtain ⟨h1, h2, h3⟩ := hexC_dec d hd
  rw [tailF, if_pos ⟨h1, h2⟩, h3]
theorem tail_dig (n : Nat) (h : n ≤ 255) : tailF 0 (digL 10 n) = some n := by
  rw [dig10 n h]
  split
  · rw [tailF_cons _ _ _ (by omega), tailF]; simp
  · split
    · rw [tailF_cons _ _ _ (by omega), tailF_cons _ _ _ (by omega), tailF]; congr 1; omega
    · rw [tailF_cons _ _ _ (by omega), tailF_cons _ _ _ (by omega), tailF_cons _ _ _ (by omega), tailF]; congr 1; omega
theorem hexC_47 : ∀ d, d < 16 → hexC d ≠ 47 := by decide
theorem digL_47 (b n : Nat) (hb : b = 10 ∨ b = 16) : (47 : UInt8) ∉ digL b n := by
  intro h
  obtain ⟨d, hd, e⟩ := digF_mem b (by omega) _ _ _ h
  exact hexC_47 d (by omega) e.symm
theorem textA_47 (a : Adr) : (47 : UInt8) ∉ textA a := by
  unfold textA textL
  split
  · have h6 : ∀ ws : List Nat, ∀ x ∈ d6 ws, (47 : UInt8) ∉ x := by
      intro ws x hx
      obtain ⟨n, _, rfl⟩ := List.mem_map.1 hx
      exact digL_47 16 n (.inr rfl)
    unfold text6
    split
    · exact join_no 47 58 (by decide) _ (h6 _)
    · rw [List.mem_append, not_or, List.mem_append, not_or]
      refine ⟨⟨join_no 47 58 (by decide) _ fun x hx => h6 _ x (List.mem_of_mem_take hx), by decide⟩, join_no 47 58 (by decide) _ fun x hx => h6 _ x (List.mem_of_mem_drop hx)⟩
  · have h4 : ∀ lo k, ∀ x ∈ d4 lo k, (47 : UInt8) ∉ x := by
      intro lo k
      induction k with
      | zero => intro x hx; cases hx
      | succ k ih =>
        intro x hx
        rw [d4] at hx
        rcases List.mem_cons.1 hx with rfl | hx
        · exact digL_47 10 _ (.inl rfl)
        · exact ih x hx
    exact join_no 47 46 (by decide) _ (h4 _ _)
theorem cut1_hit (c : UInt8) (x r : List UInt8) (h : c ∉ x) : Lib.cut (x ++ c :: r) [c] = (x, r, true) := by
  unfold Lib.cut
  rw [index_app c x r h, if_pos (by omega)]
  simp
theorem cut1_miss (c : UInt8) (x : List UInt8) (h : c ∉ x) : Lib.cut x [c] = (x, [], false) := by
  unfold Lib.cut
  rw [index_no c x h, if_neg (by omega)]
theorem cut1_back (c : UInt8) : ∀ s : List UInt8, (Lib.cut s [c]).2.2 = true → s = (Lib.cut s [c]).1 ++ c :: (Lib.cut s [c]).2.1
  | s, h => by
    by_cases hc : c ∈ s
    · obtain ⟨x, r, e, hx⟩ : ∃ x r, s = x ++ c :: r ∧ c ∉ x := by
        clear h
        induction s with
        | nil => cases hc
        | cons a s ih =>
          by_cases ha : a = c
          · exact ⟨[], s, by rw [ha]; rfl, by simp⟩
          · rcases List.mem_cons.1 hc with h | h
            · exact absurd h.symm ha
            · obtain ⟨x, r, e, hx⟩ := ih h
              exact ⟨a :: x, r, by rw [e]; rfl, by rw [List.mem_cons, not_or]; exact ⟨Ne.symm ha, hx⟩⟩
      rw [e, cut1_hit c x r hx]
    · rw [cut1_miss c s hc] at h
      cases h
theorem Adr.w_le (a : Adr) : a.w ≤ 128 := by unfold Adr.w; split <;> omega
theorem rightP_w (a : Adr) (n : Nat) (h : a.rightP n = true) : a.right ∧ n ≤ a.w ∧ a.mask n = a := of_decide_eq_true h
theorem pfx_text (a : Adr) (n : Nat) (ho : a.ok) (h : a.rightP n = true) : pfxF (textP a n) = some (a, n) := by
  obtain ⟨h1, h2, h3⟩ := rightP_w a n h
  have h128 := a.w_le
  unfold pfxF textP
  rw [cut1_hit 47 _ _ (textA_47 a)]
  dsimp only
  rw [parse_text a h1 ho]
  dsimp only
  have hl := dig10_len n (by omega)
  have hn := List.length_pos_iff.2 (digL_ne 10 n)
  rw [if_neg (by rintro (h | h | h)
                 · cases h
                 · omega
                 · omega), tail_dig n (by omega)]
  dsimp only
  rw [if_pos ⟨h, rfl⟩]
theorem pfx_some (s : List UInt8) (a : Adr) (n : Nat) (h : pfxF s = some (a, n)) : a.rightP n = true ∧ textP a n = s ∧ a.ok := by
  unfold pfxF at h
  split at h
  · cases h
  · rename_i b hb
    split at h
    · cases h
    · rename_i hc
      split at h
      · cases h
      · rename_i m hm
        split at h
        · rename_i hr
          cases h
          obtain ⟨h1, h2, h3⟩ := parse_some _ _ hb
          refine ⟨hr.1, ?_, h2⟩
          unfold textP
          rw [h1, hr.2]
          refine (cut1_back 47 s ?_).symm
          cases hcut : (Lib.cut s [47]).2.2
          · exact absurd (.inl hcut) hc
          · rfl
        · cases h
end Addr05
end Go.Proofs.YtcpokkkdmenmgaaDoor
/- lex: Number, Right. Conditions: texts of at most 2^40 bytes. -/
namespace Go.Proofs.YtcpokkkdmenmgaaDoor
open Go.RowKit Go.ChangeShapes Go.WideShapes Go.ChangeAt Go.Deep
namespace Conf18
open Addr05 (tailF str_get drop_cons)
/-- The number that a word is, at most another one. -/
def lexF (s : List UInt8) (most : Int) : Option Nat :=
  if s = [] ∨ 18 < s.length ∨ (s.head? = some 48 ∧ 1 < s.length) then none else match tailF 0 s with
    | none => none
    | some n => if most < (n : Int) then none else some n
def lexV (r : Option Nat) : Value := .tuple #[.int .i64 ((r.getD 0 : Nat) : Int), .bool r.isSome]
set_option maxRecDepth 20000 in
set_option maxHeartbeats 8000000 in
theorem lexNum_any (s : List UInt8) (hs : s.length ≤ 1099511627776) (most : Int) (w : World) :
    Calls Tryd.prog 79 #[.string (str s), .int .i64 most] w fun e w' => e = .returned (lexV (lexF s most)) ∧ w' = w := by
  have hte : (str s).toList.isEmpty = s.isEmpty := by rw [show (str s).toList = s by simp [str, ByteArray.toList_eq]]
  have hsz : (str s).size = s.length := List.size_toArray
  by_cases h0 : s = []
  · have hN : lexF s most = none := by unfold lexF; rw [if_pos (.inl h0)]
    rw [hN]
    have t0 : (str s).toList.isEmpty = true := by rw [hte, h0]; rfl
    unfold lexV
    replace hN := hide hN
    replace h0 := hide h0
    clear hte
    go_enter Tryd.func79, Tryd.ntmps79
    go_wp2_with fail
    go_ret2
    exact ⟨rfl, rfl⟩
  have t0 : (str s).toList.isEmpty = false := by rw [hte]; simpa using h0
  have hlp : 0 < s.length := List.length_pos_iff.2 h0
  clear hte
  by_cases h18 : 18 < s.length
  · have hN : lexF s most = none := by unfold lexF; rw [if_pos (.inr (.inl h18))]
    rw [hN]
    have t1 : decide ((18 : Int) < (s.length : Int)) = true := by rw [decide_eq_true_eq]; omega
    unfold lexV
    replace hN := hide hN
    replace h0 := hide h0
    replace h18 := hide h18
    go_enter Tryd.func79, Tryd.ntmps79
    go_wp2_with fail
    go_ret2
    exact ⟨rfl, rfl⟩
  have t1 : decide ((18 : Int) < (s.length : Int)) = false := by rw [decide_eq_false_iff_not]; omega
  obtain ⟨c0, hc0⟩ : ∃ c, s[0]? = some c := ⟨_, List.getElem?_eq_getElem hlp⟩
  have hhd : s.head? = some c0 := by rw [List.head?_eq_getElem?]; exact hc0
  have e0 := str_get s 0 c0 hc0 (by omega)
  by_cases h48 : c0 = 48 ∧ 1 < s.length
  · have hN : lexF s most = none := by unfold lexF; rw [if_pos (.inr (.inr ⟨by rw [hhd, h48.1], h48.2⟩))]
    rw [hN]
    have t2 : decide ((1 : Int) < (s.length : Int)) = true := by rw [decide_eq_true_eq]; omega
    have t3 : ((c0.toNat : Int) == 48) = true := by rw [h48.1]; rfl
    have j2 : 1 < s.length := h48.2
    unfold lexV
    replace hN := hide hN
    replace h0 := hide h0
    replace h18 := hide h18
    replace h48 := hide h48
    replace hc0 := hide hc0
    replace hhd := hide hhd
    go_enter Tryd.func79, Tryd.ntmps79
    go_wp2_with fail
    go_ret2
    exact ⟨rfl, rfl⟩
  have hN : lexF s most = match tailF 0 s with | none => none | some n => if most < (n : Int) then none else some n := by
    unfold lexF
    rw [if_neg]
    rintro (h | h | ⟨h, h'⟩)
    · exact h0 h
    · exact h18 h
    · rw [hhd] at h
      exact h48 ⟨Option.some.inj h, h'⟩
  obtain ⟨F, hF⟩ : ∃ F, tailF 0 s = F := ⟨_, rfl⟩
  rw [hF] at hN
  obtain ⟨R, hR⟩ : ∃ R, lexF s most = R := ⟨_, rfl⟩
  rw [hR] at hN ⊢
  clear hR
  replace hN := hide hN
  replace hF := hide hF
  replace h0 := hide h0
  replace hc0 := hide hc0
  replace hhd := hide hhd
  go_enter Tryd.func79, Tryd.ntmps79
  go_upto_region 1 with fail
  go_cut [24] from 8 to 23 (fun bv wx => bv = .bool false ∧ w = wx)
  case first =>
    by_cases h48' : c0 = 48
    · have t3 : ((c0.toNat : Int) == 48) = true := by rw [h48']; rfl
      have t2 : decide ((1 : Int) < (s.length : Int)) = false := by rw [decide_eq_false_iff_not]; intro h; exact h48 ⟨h48', by omega⟩
      replace h48 := hide h48
      replace h48' := hide h48'
      replace h18 := hide h18
      go_wp2_with fail
      go_meet
      exact ⟨rfl, rfl⟩
    · have t3 : ((c0.toNat : Int) == 48) = false := by
        rw [beq_eq_false_iff_ne]
        intro h
        apply h48'
        apply UInt8.toNat_inj.1
        have : c0.toNat = 48 := by omega
        rw [this]; rfl
      replace h48 := hide h48
      replace h48' := hide h48'
      replace h18 := hide h18
      go_wp2_with fail
      go_meet
      exact ⟨rfl, rfl⟩
  case rest =>
    obtain ⟨rfl, rfl⟩ := hcut
    clear e0 t0 t1
    replace h48 := hide h48
    replace h18 := hide h18
    go_wp2_with fail
    go_loopw [6, 7, 27] (fun nv _ kv wr => ∃ (k n : Nat), k ≤ s.length ∧ nv = .int .i64 (n : Int) ∧ kv = .int .i64 (k : Int) ∧ tailF n (s.drop k) = F ∧ n < 10 ^ k ∧ w = wr) (fun _ _ kv _ => s.length - (intOf kv).toNat)
    case atStart => exact ⟨0, 0, by omega, rfl, rfl, hF.out, by decide, rfl⟩
    case round =>
      obtain ⟨k, n, hk, rfl, rfl, hf, hn, rfl⟩ := hrel
      have h18' := h18.out
      by_cases hks : k < s.length
      · have i1 : (k : Int) < (s.length : Int) := by omega
        have i2 : (0 : Int) ≤ (k : Int) := by omega
        obtain ⟨c, hc⟩ : ∃ c, s[k]? = some c := ⟨_, List.getElem?_eq_getElem hks⟩
        have hks2 : k < (str s).size := by omega
        have ek := str_get s k c hc hks2
        have hd : s.drop k = c :: s.drop (k + 1) := drop_cons hc
        rw [hd, tailF] at hf
        have hp : 10 ^ k ≤ 10 ^ 17 := Nat.pow_le_pow_right (by omega) (by omega)
        have hp1 : 10 ^ (k + 1) = 10 ^ k * 10 := Nat.pow_succ _ _
        obtain ⟨P, hP⟩ : ∃ P, 10 ^ k = P := ⟨_, rfl⟩
        rw [hP] at hp hp1 hn
        obtain ⟨v, hv⟩ : ∃ v, c.toNat = v := ⟨_, rfl⟩
        have hv256 : v < 256 := by have := c.toNat_lt; omega
        rw [hv] at hf
        have ek2 : ((c.toNat : Nat) : Int) = (v : Int) := by rw [hv]
        by_cases hdig : 48 ≤ v ∧ v ≤ 57
        · have n1 : ¬ (v : Int) < 48 := by omega
          have n2 : ¬ (57 : Int) < (v : Int) := by omega
          obtain ⟨d, hdd⟩ : ∃ d, v - 48 = d := ⟨_, rfl⟩
          have w1' : IntKind.i64.wrap (10 * (n : Int)) = ((10 * n : Nat) : Int) := by rw [wraps62 _ (by omega) (by omega)]; omega
          have w2' : IntKind.u8.wrap ((v : Int) - 48) = (d : Int) := by rw [IntKind.wrap_u8]; omega
          have w3' : IntKind.i64.wrap (d : Int) = (d : Int) := wraps62 _ (by omega) (by omega)
          rw [if_pos hdig, hdd] at hf
          have hd10 : d < 10 := by omega
          obtain ⟨n10, hn10⟩ : ∃ x, 10 * n = x := ⟨_, rfl⟩
          rw [hn10] at w1' hf
          obtain ⟨n2', hn2⟩ : ∃ x, n10 + d = x := ⟨_, rfl⟩
          have hb2 : n2' < P * 10 ∧ n2' < 1000000000000000000 := by omega
          have w4' : IntKind.i64.wrap ((n10 : Int) + (d : Int)) = (n2' : Int) := by rw [wraps62 _ (by omega) (by omega)]; omega
          rw [hn2] at hf
          replace hf := hide hf
          replace hc := hide hc
          replace hd := hide hd
          replace hP := hide hP
          replace hp1 := hide hp1
          replace hdig := hide hdig
          replace hdd := hide hdd
          replace hn10 := hide hn10
          replace hn2 := hide hn2
          replace hv := hide hv
          replace h18' := hide h18'
          go_wp2_with fail
          refine ⟨⟨k + 1, n2', by omega, by first | rfl | go_num, by first | rfl | go_num, hf.out, by rw [hp1.out]; exact hb2.1, by first | rfl | trivial⟩, by simp only [intOf]; omega⟩
        · rw [if_neg hdig] at hf
          obtain rfl : R = none := by rw [hN.out, ← hf]
          clear hN hF hf
          rcases Nat.lt_or_ge v 48 with h | h
          · have n1 : (v : Int) < 48 := by omega
            replace hc := hide hc
            replace hd := hide hd
            replace hP := hide hP
            replace hdig := hide hdig
            replace hv := hide hv
            replace h18' := hide h18'
            go_wp2_with fail
            go_ret2
            exact ⟨rfl, by first | rfl | trivial⟩
          · have n1 : ¬ (v : Int) < 48 := by omega
            have n2 : (57 : Int) < (v : Int) := by omega
            replace hc := hide hc
            replace hd := hide hd
            replace hP := hide hP
            replace hdig := hide hdig
            replace hv := hide hv
            replace h18' := hide h18'
            go_wp2_with fail
            go_ret2
            exact ⟨rfl, by first | rfl | trivial⟩
      · have i1 : ((k : Int) < (s.length : Int)) = False := by rw [eq_iff_iff, iff_false]; omega
        have hdn : s.drop k = [] := List.drop_of_length_le (by omega)
        rw [hdn, tailF] at hf
        have hR0 : R = if most < (n : Int) then none else some n := by rw [hN.out, ← hf]
        clear hN hF
        by_cases hm : most < (n : Int)
        · rw [if_pos hm] at hR0
          subst hR0
          replace hdn := hide hdn
          replace hf := hide hf
          go_wp2_with fail
          go_ret2
          exact ⟨rfl, by first | rfl | trivial⟩
        · rw [if_neg hm] at hR0
          subst hR0
          replace hdn := hide hdn
          replace hf := hide hf
          go_wp2_with fail
          go_ret2
          exact ⟨rfl, by first | rfl | trivial⟩
end Conf18
end Go.Proofs.YtcpokkkdmenmgaaDoor
/- pfx: number: digits of a small number, held within 0 and 128. No condition. -/
namespace Go.Proofs.YtcpokkkdmenmgaaDoor
open Go.RowKit Go.ChangeShapes Go.WideShapes Go.ChangeAt Go.Deep
namespace Addr05
theorem hexC_small (d : Nat) (h : d < 10) : Value.int .u8 (48 + (d : Int)) = u8v (hexC d) := by
  unfold u8v hexC
  rw [if_pos h]
  congr 1
  simp only [UInt8.toNat_ofNat']
  omega
set_option maxRecDepth 20000 in
set_option maxHeartbeats 4000000 in
theorem pnum_any (i : Int) (w : World) :
    Calls Tryd.prog 53 #[.int .i64 i] w fun e w' => e = .returned (.string (str (digL 10 (min (max i 0) 128).toNat))) ∧ Below w.heap.size w w' := by
  obtain ⟨m0, hm0⟩ : ∃ m : Nat, max i 0 = (m : Int) := ⟨(max i 0).toNat, by omega⟩
  obtain ⟨n, hn⟩ : ∃ n : Nat, min (m0 : Int) 128 = (n : Int) := ⟨(min (m0 : Int) 128).toNat, by omega⟩
  have hn128 : n ≤ 128 := by omega
  rw [hm0, hn, Int.toNat_natCast]
  go_enter Tryd.func53, Tryd.ntmps53
  go_wp2_with fail
  clear hm0 hn
  go_loopw [0, 3] (fun nv bv wr => ∃ (j m : Nat) (acc : List UInt8), j < 20 ∧ nv = .int .i64 (m : Int) ∧ m ≤ n ∧ m < 10 ^ (20 - j) ∧ digF 10 (20 - j) m ++ acc = digL 10 n ∧ acc.length = j ∧ OwnB wr w.heap.size bv acc ∧ Below w.heap.size w wr) (fun nv _ _ => (intOf nv).toNat)
  case atStart => exact ⟨0, n, [], by omega, rfl, Nat.le_refl _, by omega, by simp [digL], rfl, OwnB.nil _ _, Below.refl _ _⟩
  case round =>
    obtain ⟨j, m, acc, hj, rfl, hmn, hm, hd, hl, ho, hB⟩ := hrel
    obtain ⟨d, hdd⟩ : ∃ d, m % 10 = d := ⟨_, rfl⟩
    have hd10 : d < 10 := by omega
    have d1 : (m : Int) % 10 = (d : Int) := by omega
    have d2 : Int.tmod (m : Int) 10 = (d : Int) := by rw [Int.tmod_eq_emod_of_nonneg (by omega)]; omega
    have wd : IntKind.i64.wrap (48 + (d : Int)) = 48 + (d : Int) := wraps62 _ (by omega) (by omega)
    have wd8 : IntKind.u8.wrap (48 + (d : Int)) = 48 + (d : Int) := by rw [IntKind.wrap_u8]; omega
    have hlit := hexC_small d hd10
    replace hd := hide hd
    replace ho := hide ho
    replace hB := hide hB
    replace hlit := hide hlit
    obtain ⟨Ab, cb, rfl, hcb, hmb, hib⟩ := ho.out.form
    have hal := hl
    replace hib := hide hib
    replace hl := hide hl
    go_wp2_with (at_builtin; refine wpl_src_bv rfl (.tmp 13) (.tmp 14) rfl wr.heap.size (.slice (some ⟨wr.heap.size, 0, none⟩) 1 1) [hexC d] acc Ab acc.length cb wr.heap.size rfl rfl ?_ ?_ ?_ ?_ ?_)
    · exact OwnB.litv wr wr.heap.size _ [hexC d] 1 (by rw [hlit.out]; rfl) rfl (Nat.le_refl _) (by omega)
    · exact hib.out.below ((Below.refl _ _).alloc (Nat.le_refl _) _)
    · first | omega | simp
    · rw [List.length_singleton]; omega
    intro v2 w2 hown2 hg2
    have hb2 : Below wr.heap.size wr w2 := ((Below.refl _ _).alloc (Nat.le_refl _) _).trans (hg2.below (OwnB.litv wr wr.heap.size _ [hexC d] 1 (by rw [hlit.out]; rfl) rfl (Nat.le_refl _) (by omega)) (by simp))
    obtain ⟨q, hq⟩ : ∃ q, m / 10 = q := ⟨_, rfl⟩
    have q1 : (m : Int) / 10 = (q : Int) := by omega
    have q2 : Int.tdiv (m : Int) 10 = (q : Int) := by rw [Int.tdiv_eq_ediv_of_nonneg (by omega)]; omega
    have hsz := hB.out.size
    have hB2 := hB.out.trans (hb2.mono hsz)
    obtain ⟨t, ht⟩ : ∃ t, hexC d :: acc = t := ⟨_, rfl⟩
    have htl : t.length = j + 1 := by rw [← ht, List.length_cons, hl.out]
    rw [ht] at hown2
    obtain ⟨A2, c2, hv2, hc2, hm2, hi2⟩ := hown2.form
    rw [htl] at hv2 hc2 hi2
    subst hv2
    have hst := hi2.str c2
    have ho2 := hown2.weaken hsz
    clear hown2 hg2 hib ho
    have wq : IntKind.i64.wrap (q : Int) = (q : Int) := wraps62 _ (by omega) (by omega)
    replace hi2 := hide hi2
    replace hb2 := hide hb2
    replace hB2 := hide hB2
    replace ho2 := hide ho2
    replace hd := hide hd
    replace ht := hide ht
    replace hq := hide hq
    by_cases hz : m < 10
    · have t0 : decide ((m : Int) < 10) = true := by rw [decide_eq_true_eq]; omega
      go_wp2_with fail
      go_ret
      refine ⟨?_, hB2.out⟩
      obtain ⟨i, hi⟩ : ∃ i, 20 - j = i + 1 := ⟨19 - j, by omega⟩
      have h1 := hd.out.out
      rw [hi, digF_lt hz] at h1
      rw [Nat.mod_eq_of_lt hz] at hdd
      subst hdd
      have h3 : t = digL 10 n := by rw [← h1, ← ht.out]; rfl
      rw [← h3]
      rfl
    · have t0 : decide ((m : Int) < 10) = false := by rw [decide_eq_false_iff_not]; omega
      go_wp2_with fail
      have hqq := hq.out
      have hj19 : j < 19 := by
        rcases Nat.lt_or_ge j 19 with h | h
        · exact h
        · have e : j = 19 := by omega
          rw [e] at hm
          omega
      have h1 := hd.out.out
      have e2 : 20 - j = (19 - j) + 1 := by omega
      have e3 : 20 - (j + 1) = 19 - j := by omega
      rw [e2, digF_ge hz, hqq, hdd, List.append_assoc] at h1
      rw [e2, Nat.pow_succ] at hm
      refine ⟨⟨j + 1, q, t, by omega, rfl, by omega, ?_, ?_, htl, ho2.out, hB2.out⟩, ?_⟩
      · rw [e3, ← hqq]
        exact Nat.div_lt_of_lt_mul (by rw [Nat.mul_comm]; exact hm)
      · rw [e3, ← h1, ← ht.out]; rfl
      · simp only [intOf]; omega
end Addr05
end Go.Proofs.YtcpokkkdmenmgaaDoor
/- pfx: plain: the longest key with which a row of bits begins. No condition. -/
namespace Go.Proofs.YtcpokkkdmenmgaaDoor
open Go.RowKit Go.ChangeShapes Go.WideShapes Go.ChangeAt Go.Deep
namespace Addr05
abbrev Keys := List Nat → Option Int
/-- What Find tells of a row of bits: value and length of the longest key with which it begins. -/
def IsFind (M : Keys) (bs : List Nat) : Option (Int × Nat) → Prop
  | none => ∀ i, i ≤ bs.length → M (bs.take i) = none
  | some (v, n) => n ≤ bs.length ∧ M (bs.take n) = some v ∧ ∀ i, n < i → i ≤ bs.length → M (bs.take i) = none
theorem IsFind.unique {M : Keys} {bs : List Nat} {r r' : Option (Int × Nat)} (h : IsFind M bs r) (h' : IsFind M bs r') : r = r' := by
  cases r with
  | none =>
    cases r' with
    | none => rfl
    | some p =>
      obtain ⟨v, n⟩ := p
      have := h n h'.1
      rw [h'.2.1] at this
      cases this
  | some p =>
    obtain ⟨v, n⟩ := p
    cases r' with
    | none =>
      have := h' n h.1
      rw [h.2.1] at this
      cases this
    | some p' =>
      obtain ⟨v', n'⟩ := p'
      have e : n = n' := by
        rcases Nat.lt_trichotomy n n' with h1 | h1 | h1
        · have := h.2.2 n' h1 h'.1
          rw [h'.2.1] at this
          cases this
        · exact h1
        · have := h'.2.2 n h1 h.1
          rw [h.2.1] at this
          cases this
      subst e
      have := h.2.1.symm.trans h'.2.1
      cases this
      rfl
def upd (M : Keys) (k : List Nat) (v : Int) : Keys := fun q => if q = k then some v else M q
theorem take_inj (bs : List Nat) (i j : Nat) (hi : i ≤ bs.length) (hj : j ≤ bs.length) (h : bs.take i = bs.take j) : i = j := by
  have := congrArg List.length h
  rw [List.length_take, List.length_take] at this
  omega
/-- One more key: the longest may be that one. -/
theorem IsFind.put {M : Keys} {bs : List Nat} {r : Option (Int × Nat)} (h : IsFind M bs r) (k : List Nat) (v : Int) :
    IsFind (upd M k v) bs (if k = bs.take k.length ∧ k.length ≤ bs.length ∧ (∀ p, r = some p → p.2 ≤ k.length) then some (v, k.length) else r) := by
  by_cases hk : k = bs.take k.length ∧ k.length ≤ bs.length
  · have hne : ∀ i, i ≤ bs.length → i ≠ k.length → bs.take i ≠ k := by
      intro i hi hne e
      exact hne (take_inj bs i k.length hi hk.2 (e.trans hk.1))
    by_cases hr : ∀ p, r = some p → p.2 ≤ k.length
    · rw [if_pos ⟨hk.1, hk.2, hr⟩]
      refine ⟨hk.2, ?_, ?_⟩
      · unfold upd; rw [if_pos hk.1.symm]
      · intro i h1 h2
        unfold upd
        rw [if_neg (hne i h2 (by omega))]
        cases r with
        | none => exact h i h2
        | some p => exact h.2.2 i (by have := hr p rfl; omega) h2
    · rw [if_neg (fun e => hr e.2.2)]
      cases r with
      | none => exact absurd (fun p e => by cases e) hr
      | some p =>
        obtain ⟨v', n⟩ := p
        have hn : ¬ n ≤ k.length := fun e => hr (fun p' e' => by cases e'; exact e)
        refine ⟨h.1, ?_, ?_⟩
        · unfold upd
          rw [if_neg (hne n h.1 (by omega))]
          exact h.2.1
        · intro i h1 h2
          unfold upd
          rw [if_neg (hne i h2 (by omega))]
          exact h.2.2 i h1 h2
  · rw [if_neg (fun e => hk ⟨e.1, e.2.1⟩)]
    have hne : ∀ i, i ≤ bs.length → bs.take i ≠ k := by
      intro i hi e
      apply hk
      have hl := congrArg List.length e
      rw [List.length_take, Nat.min_eq_left hi] at hl
      rw [← hl]
      exact ⟨e.symm, hi⟩
    cases r with
    | none =>
      intro i hi
      unfold upd
      rw [if_neg (hne i hi)]
      exact h i hi
    | some p =>
      obtain ⟨v', n⟩ := p
      refine ⟨h.1, ?_, ?_⟩
      · unfold upd
        rw [if_neg (hne n h.1)]
        exact h.2.1
      · intro i h1 h2
        unfold upd
        rw [if_neg (hne i h2)]
        exact h.2.2 i h1 h2
end Addr05
end Go.Proofs.YtcpokkkdmenmgaaDoor
