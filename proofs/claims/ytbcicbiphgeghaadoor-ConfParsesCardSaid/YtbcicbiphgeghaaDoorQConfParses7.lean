/- pfx: plain: masks and bits of addresses. No condition. -/
import Derived.Test.YtbcicbiphgeghaaDoorQConfParses6
import Derived.Test.YtbcicbiphgeghaaDoorQConfParses5
import Derived.Test.YtbcicbiphgeghaaDoorQConfParses4
import Derived.Test.YtbcicbiphgeghaaDoorQConfParses3
import Derived.Laws.CopyOwn
namespace Go.Proofs.YtbcicbiphgeghaaDoor
open Go.RowKit Go.ChangeShapes Go.WideShapes Go.ChangeAt Go.Deep
namespace Addr05
/-- A number whose last so many bits are 0. -/
def mkB (x k : Nat) : Nat := x / 2 ^ k * 2 ^ k
theorem mkB_le (x k : Nat) : mkB x k ≤ x := Nat.div_mul_le_self _ _
theorem testBit_mkB (x k j : Nat) : (mkB x k).testBit j = (decide (k ≤ j) && x.testBit j) := by
  unfold mkB
  rw [← Nat.shiftRight_eq_div_pow, ← Nat.shiftLeft_eq, Nat.testBit_shiftLeft, Nat.testBit_shiftRight]
  by_cases h : k ≤ j
  · simp [h]
  · simp [h]
theorem mkB_eq_iff (x k : Nat) : mkB x k = x ↔ ∀ j < k, x.testBit j = false := by
  constructor
  · intro h j hj
    have := testBit_mkB x k j
    rw [h] at this
    simpa [Nat.not_le.2 hj] using this
  · intro h
    apply Nat.eq_of_testBit_eq
    intro j
    rw [testBit_mkB]
    by_cases hk : k ≤ j
    · simp [hk]
    · simp [hk, h j (by omega)]
theorem mkB_eq_mkB_iff (x y k : Nat) : mkB x k = mkB y k ↔ ∀ j, k ≤ j → x.testBit j = y.testBit j := by
  constructor
  · intro h j hj
    have h1 := testBit_mkB x k j
    have h2 := testBit_mkB y k j
    rw [h, h2] at h1
    simpa [hj] using h1.symm
  · intro h
    apply Nat.eq_of_testBit_eq
    intro j
    rw [testBit_mkB, testBit_mkB]
    by_cases hk : k ≤ j
    · simp [hk, h j hk]
    · simp [hk]
theorem mod2_testBit (x j : Nat) : x / 2 ^ j % 2 = (x.testBit j).toNat := by
  rw [Nat.testBit_eq_decide_div_mod_eq]
  have : x / 2 ^ j % 2 < 2 := Nat.mod_lt _ (by omega)
  by_cases h : x / 2 ^ j % 2 = 1
  · simp [h]
  · have : x / 2 ^ j % 2 = 0 := by omega
    simp [this]
/-- How many bits. -/
def Adr.w (a : Adr) : Nat := if a.v6 then 128 else 32
/-- The number that an address's bits are. -/
def Adr.V (a : Adr) : Nat := if a.v6 then a.hi * 18446744073709551616 + a.lo else a.lo
/-- A bit, from the highest on. -/
def Adr.bit (a : Adr) (i : Nat) : Nat := if i < a.w then (if a.v6 then (if i < 64 then a.hi / 2 ^ (63 - i) % 2 else a.lo / 2 ^ (127 - i) % 2) else a.lo / 2 ^ (31 - i) % 2) else 0
theorem Adr.V_lo (a : Adr) (ho : a.ok) (h6 : a.v6 = true) (j : Nat) (hj : j < 64) : a.V.testBit j = a.lo.testBit j := by
  unfold Adr.V
  rw [if_pos h6, show a.hi * 18446744073709551616 = 2 ^ 64 * a.hi by omega, Nat.testBit_two_pow_mul_add _ ho.2, if_pos hj]
theorem Adr.V_hi (a : Adr) (ho : a.ok) (h6 : a.v6 = true) (j : Nat) (hj : 64 ≤ j) : a.V.testBit j = a.hi.testBit (j - 64) := by
  unfold Adr.V
  rw [if_pos h6, show a.hi * 18446744073709551616 = 2 ^ 64 * a.hi by omega, Nat.testBit_two_pow_mul_add _ ho.2, if_neg (by omega)]
theorem Adr.bit_V (a : Adr) (ho : a.ok) (i : Nat) (h : i < a.w) : a.bit i = (a.V.testBit (a.w - 1 - i)).toNat := by
  unfold Adr.bit
  rw [if_pos h]
  by_cases h6 : a.v6 = true
  · have hw : a.w = 128 := by unfold Adr.w; rw [if_pos h6]
    rw [hw] at h ⊢
    rw [if_pos h6]
    split
    · rw [mod2_testBit, a.V_hi ho h6 _ (by omega)]
      congr 2
      omega
    · rw [mod2_testBit, a.V_lo ho h6 _ (by omega)]
  · have hw : a.w = 32 := by unfold Adr.w; rw [if_neg h6]
    rw [hw] at h ⊢
    rw [if_neg h6, mod2_testBit]
    unfold Adr.V
    rw [if_neg h6]
/-- What Mask makes: at so many bits that there can be. -/
def Adr.mask (a : Adr) (b : Nat) : Adr := if a.v6 then ⟨true, mkB a.hi (64 - min b 64), mkB a.lo (64 - (b - 64))⟩ else ⟨false, a.hi, mkB a.lo (32 - b)⟩
theorem Adr.mask_v6 (a : Adr) (b : Nat) : (a.mask b).v6 = a.v6 := by
  unfold Adr.mask
  cases h : a.v6 <;> simp
theorem Adr.mask_w (a : Adr) (b : Nat) : (a.mask b).w = a.w := by unfold Adr.w; rw [Adr.mask_v6]
theorem Adr.mask_ok (a : Adr) (ho : a.ok) (b : Nat) : (a.mask b).ok := by
  unfold Adr.mask
  have h1 := ho.1
  have h2 := ho.2
  split
  · exact ⟨Nat.lt_of_le_of_lt (mkB_le _ _) h1, Nat.lt_of_le_of_lt (mkB_le _ _) h2⟩
  · exact ⟨h1, Nat.lt_of_le_of_lt (mkB_le _ _) h2⟩
theorem Adr.mask_right (a : Adr) (hr : a.right) (b : Nat) : (a.mask b).right := by
  unfold Adr.mask
  rcases hr with h | h
  · rw [if_pos h]; exact .inl rfl
  · split
    · exact .inl rfl
    · exact .inr ⟨h.1, Nat.lt_of_le_of_lt (mkB_le _ _) h.2⟩
theorem Adr.mask_V (a : Adr) (ho : a.ok) (b : Nat) (hb : b ≤ a.w) : (a.mask b).V = mkB a.V (a.w - b) := by
  apply Nat.eq_of_testBit_eq
  intro j
  rw [testBit_mkB]
  have ho' := a.mask_ok ho b
  by_cases h6 : a.v6 = true
  · have hw : a.w = 128 := by unfold Adr.w; rw [if_pos h6]
    rw [hw] at hb ⊢
    have hm6 : (a.mask b).v6 = true := by rw [a.mask_v6, h6]
    by_cases hj : j < 64
    · rw [(a.mask b).V_lo ho' hm6 j hj, a.V_lo ho h6 j hj]
      unfold Adr.mask
      rw [if_pos h6, testBit_mkB]
      congr 1
      by_cases h1 : 128 - b ≤ j
      · simp [h1]; omega
      · simp [h1]; omega
    · rw [(a.mask b).V_hi ho' hm6 j (by omega), a.V_hi ho h6 j (by omega)]
      unfold Adr.mask
      rw [if_pos h6, testBit_mkB]
      congr 1
      by_cases h1 : 128 - b ≤ j
      · simp [h1]; omega
      · simp [h1]; omega
  · have hw : a.w = 32 := by unfold Adr.w; rw [if_neg h6]
    rw [hw] at hb ⊢
    unfold Adr.mask Adr.V
    rw [if_neg h6, if_neg h6]
    exact testBit_mkB _ _ _
theorem Adr.ext_V (a b : Adr) (h6 : a.v6 = b.v6) (hoa : a.ok) (hob : b.ok) (hra : a.right) (hrb : b.right) (h : a.V = b.V) : a = b := by
  obtain ⟨v, hi, lo⟩ := a
  obtain ⟨v', hi', lo'⟩ := b
  dsimp only at h6
  subst h6
  unfold Adr.V at h
  obtain ⟨h1, h2⟩ := hoa
  obtain ⟨h3, h4⟩ := hob
  dsimp only at h h1 h2 h3 h4
  cases v
  · rcases hra with e | e
    · cases e
    · rcases hrb with e' | e'
      · cases e'
      · obtain ⟨rfl, _⟩ := e
        obtain ⟨rfl, _⟩ := e'
        simp at h
        simp [h]
  · simp only [if_true] at h
    have : hi = hi' := by omega
    have : lo = lo' := by omega
    simp [*]
theorem Adr.V_lt (a : Adr) (ho : a.ok) (hr : a.right) : a.V < 2 ^ a.w := by
  have h1 := ho.1
  have h2 := ho.2
  unfold Adr.V Adr.w
  split
  · have : (2 : Nat) ^ 128 = 18446744073709551616 * 18446744073709551616 := by decide
    rw [this]
    have : a.hi * 18446744073709551616 + 18446744073709551616 ≤ 18446744073709551616 * 18446744073709551616 := by omega
    omega
  · rename_i h6
    rcases hr with h | h
    · exact absurd h h6
    · exact h.2
/-- Masked is as it was: there are no bits behind. -/
theorem Adr.mask_eq (a : Adr) (ho : a.ok) (hr : a.right) (b : Nat) (hb : b ≤ a.w) : a.mask b = a ↔ ∀ i, b ≤ i → i < a.w → a.bit i = 0 := by
  have e1 : a.mask b = a ↔ (a.mask b).V = a.V := ⟨fun h => by rw [h], fun h => Adr.ext_V _ _ (a.mask_v6 b) (a.mask_ok ho b) ho (a.mask_right hr b) hr h⟩
  rw [e1, a.mask_V ho b hb, mkB_eq_iff]
  constructor
  · intro h i hi hw
    rw [a.bit_V ho i hw, h _ (by omega)]
    rfl
  · intro h j hj
    have h1 := h (a.w - 1 - j) (by omega) (by omega)
    rw [a.bit_V ho _ (by omega), show a.w - 1 - (a.w - 1 - j) = j by omega] at h1
    cases h2 : a.V.testBit j
    · rfl
    · rw [h2] at h1; cases h1
/-- Masked is a prefix's address: the first bits are alike. -/
theorem Adr.mask_eq2 (a p : Adr) (ho : a.ok) (hr : a.right) (hop : p.ok) (hrp : p.right) (h6 : a.v6 = p.v6) (b : Nat) (hb : b ≤ a.w) (hp : p.mask b = p) : a.mask b = p ↔ ∀ i, i < b → p.bit i = a.bit i := by
  have hw : a.w = p.w := by unfold Adr.w; rw [h6]
  have e1 : a.mask b = p ↔ (a.mask b).V = p.V := ⟨fun h => by rw [h], fun h => Adr.ext_V _ _ ((a.mask_v6 b).trans h6) (a.mask_ok ho b) hop (a.mask_right hr b) hrp h⟩
  have e2 : p.V = mkB p.V (p.w - b) := by
    have := p.mask_V hop b (by omega)
    rw [hp] at this
    exact this
  rw [e1, a.mask_V ho b hb, e2, ← hw, mkB_eq_mkB_iff]
  have hT : ∀ x y : Bool, x.toNat = y.toNat ↔ x = y := by decide
  constructor
  · intro h i hi
    rw [a.bit_V ho i (by omega), p.bit_V hop i (by omega), h _ (by omega), hw]
  · intro h j hj
    by_cases hjw : j < a.w
    · have h1 := h (a.w - 1 - j) (by omega)
      rw [a.bit_V ho _ (by omega), p.bit_V hop _ (by omega), hT, ← hw, show a.w - 1 - (a.w - 1 - j) = j by omega] at h1
      exact h1.symm
    · have hz : ∀ x : Nat, x < 2 ^ a.w → x.testBit j = false := fun x hx => Nat.testBit_lt_two_pow (Nat.lt_of_lt_of_le hx (Nat.pow_le_pow_right (by omega) (by omega)))
      rw [hz _ (a.V_lt ho hr), hz _ (by rw [hw]; exact p.V_lt hop hrp)]
/-- The bits of what Mask makes. -/
theorem Adr.mask_bit (a : Adr) (ho : a.ok) (b : Nat) (hb : b ≤ a.w) (i : Nat) (hi : i < a.w) : (a.mask b).bit i = if i < b then a.bit i else 0 := by
  rw [(a.mask b).bit_V (a.mask_ok ho b) i (by rw [a.mask_w]; exact hi), a.mask_V ho b hb, a.mask_w, testBit_mkB, a.bit_V ho i hi]
  by_cases h : i < b
  · rw [if_pos h]
    have : a.w - b ≤ a.w - 1 - i := by omega
    simp [this]
  · rw [if_neg h]
    have : ¬ a.w - b ≤ a.w - 1 - i := by omega
    simp [this]
end Addr05
end Go.Proofs.YtbcicbiphgeghaaDoor
/- pfx: plain: what Parse makes of a text is the prefix whose text it is, or none; what Text makes is parsed again. No condition. -/
namespace Go.Proofs.YtbcicbiphgeghaaDoor
open Go.RowKit Go.ChangeShapes Go.WideShapes Go.ChangeAt Go.Deep
namespace Addr05
instance (a : Adr) : Decidable a.right := by unfold Adr.right; infer_instance
deriving instance DecidableEq for Adr
/-- May a prefix be? -/
def Adr.rightP (a : Adr) (n : Nat) : Bool := decide (a.right ∧ n ≤ a.w ∧ a.mask n = a)
/-- The number that digits are. -/
def tailF : Nat → List UInt8 → Option Nat
  | n, [] => some n
  | n, c :: r => if 48 ≤ c.toNat ∧ c.toNat ≤ 57 then tailF (10 * n + (c.toNat - 48)) r else none
def pfxF (s : List UInt8) : Option (Adr × Nat) :=
  match parseF (Lib.cut s [47]).1 with
  | none => none
  | some a => if (Lib.cut s [47]).2.2 = false ∨ (Lib.cut s [47]).2.1.length < 1 ∨ 3 < (Lib.cut s [47]).2.1.length then none else match tailF 0 (Lib.cut s [47]).2.1 with
    | none => none
    | some n => if a.rightP n = true ∧ digL 10 n = (Lib.cut s [47]).2.1 then some (a, n) else none
def textP (a : Adr) (n : Nat) : List UInt8 := textA a ++ 47 :: digL 10 n
theorem hexC_dec : ∀ d, d < 10 → 48 ≤ (hexC d).toNat ∧ (hexC d).toNat ≤ 57 ∧ (hexC d).toNat - 48 = d := by decide
theorem tailF_cons (n d : Nat) (r : List UInt8) (hd : d < 10) : tailF n (hexC d :: r) = tailF (10 * n + d) r := by
  obtain ⟨h1, h2, h3⟩ := hexC_dec d hd
  rw [tailF, if_pos ⟨h1, h2⟩, h3]
theorem tail_dig (n : Nat) (h : n ≤ 255) : tailF 0 (digL 10 n) = some n := by
  rw [dig10 n h]
  split
  · rw [tailF_cons _ _ _ (by omega), tailF]; simp
  · split
    · rw [tailF_cons _ _ _ (by omega), tailF_cons _ _ _ (by omega), tailF]; congr 1; omega
    · rw [tailF_cons _ _ _ (by omega), tailF_cons _ _ _ (by omega), tailF_cons _ _ _ (by omega), tailF]; congr 1; omega
theorem hexC_47 : ∀ d, d < 16 → hexC d ≠ 47 := by decide
theorem digL_47 (b n : Nat) (hb : b = 10 ∨ b = 16) : (47 : UInt8) ∉ digL b n := by
  intro h
  obtain ⟨d, hd, e⟩ := digF_mem b (by omega) _ _ _ h
  exact hexC_47 d (by omega) e.symm
theorem textA_47 (a : Adr) : (47 : UInt8) ∉ textA a := by
  unfold textA textL
  split
  · have h6 : ∀ ws : List Nat, ∀ x ∈ d6 ws, (47 : UInt8) ∉ x := by
      intro ws x hx
      obtain ⟨n, _, rfl⟩ := List.mem_map.1 hx
      exact digL_47 16 n (.inr rfl)
    unfold text6
    split
    · exact join_no 47 58 (by decide) _ (h6 _)
    · rw [List.mem_append, not_or, List.mem_append, not_or]
      refine ⟨⟨join_no 47 58 (by decide) _ fun x hx => h6 _ x (List.mem_of_mem_take hx), by decide⟩, join_no 47 58 (by decide) _ fun x hx => h6 _ x (List.mem_of_mem_drop hx)⟩
  · have h4 : ∀ lo k, ∀ x ∈ d4 lo k, (47 : UInt8) ∉ x := by
      intro lo k
      induction k with
      | zero => intro x hx; cases hx
      | succ k ih =>
        intro x hx
        rw [d4] at hx
        rcases List.mem_cons.1 hx with rfl | hx
        · exact digL_47 10 _ (.inl rfl)
        · exact ih x hx
    exact join_no 47 46 (by decide) _ (h4 _ _)
theorem cut1_hit (c : UInt8) (x r : List UInt8) (h : c ∉ x) : Lib.cut (x ++ c :: r) [c] = (x, r, true) := by
  unfold Lib.cut
  rw [index_app c x r h, if_pos (by omega)]
  simp
theorem cut1_miss (c : UInt8) (x : List UInt8) (h : c ∉ x) : Lib.cut x [c] = (x, [], false) := by
  unfold Lib.cut
  rw [index_no c x h, if_neg (by omega)]
theorem cut1_back (c : UInt8) : ∀ s : List UInt8, (Lib.cut s [c]).2.2 = true → s = (Lib.cut s [c]).1 ++ c :: (Lib.cut s [c]).2.1
  | s, h => by
    by_cases hc : c ∈ s
    · obtain ⟨x, r, e, hx⟩ : ∃ x r, s = x ++ c :: r ∧ c ∉ x := by
        clear h
        induction s with
        | nil => cases hc
        | cons a s ih =>
          by_cases ha : a = c
          · exact ⟨[], s, by rw [ha]; rfl, by simp⟩
          · rcases List.mem_cons.1 hc with h | h
            · exact absurd h.symm ha
            · obtain ⟨x, r, e, hx⟩ := ih h
              exact ⟨a :: x, r, by rw [e]; rfl, by rw [List.mem_cons, not_or]; exact ⟨Ne.symm ha, hx⟩⟩
      rw [e, cut1_hit c x r hx]
    · rw [cut1_miss c s hc] at h
      cases h
theorem Adr.w_le (a : Adr) : a.w ≤ 128 := by unfold Adr.w; split <;> omega
theorem rightP_w (a : Adr) (n : Nat) (h : a.rightP n = true) : a.right ∧ n ≤ a.w ∧ a.mask n = a := of_decide_eq_true h
theorem pfx_text (a : Adr) (n : Nat) (ho : a.ok) (h : a.rightP n = true) : pfxF (textP a n) = some (a, n) := by
  obtain ⟨h1, h2, h3⟩ := rightP_w a n h
  have h128 := a.w_le
  unfold pfxF textP
  rw [cut1_hit 47 _ _ (textA_47 a)]
  dsimp only
  rw [parse_text a h1 ho]
  dsimp only
  have hl := dig10_len n (by omega)
  have hn := List.length_pos_iff.2 (digL_ne 10 n)
  rw [if_neg (by rintro (h | h | h)
                 · cases h
                 · omega
                 · omega), tail_dig n (by omega)]
  dsimp only
  rw [if_pos ⟨h, rfl⟩]
theorem pfx_some (s : List UInt8) (a : Adr) (n : Nat) (h : pfxF s = some (a, n)) : a.rightP n = true ∧ textP a n = s ∧ a.ok := by
  unfold pfxF at h
  split at h
  · cases h
  · rename_i b hb
    split at h
    · cases h
    · rename_i hc
      split at h
      · cases h
      · rename_i m hm
        split at h
        · rename_i hr
          cases h
          obtain ⟨h1, h2, h3⟩ := parse_some _ _ hb
          refine ⟨hr.1, ?_, h2⟩
          unfold textP
          rw [h1, hr.2]
          refine (cut1_back 47 s ?_).symm
          cases hcut : (Lib.cut s [47]).2.2
          · exact absurd (.inl hcut) hc
          · rfl
        · cases h
end Addr05
end Go.Proofs.YtbcicbiphgeghaaDoor
/- lex: Number, Right. Conditions: texts of at most 2^40 bytes. -/
namespace Go.Proofs.YtbcicbiphgeghaaDoor
open Go.RowKit Go.ChangeShapes Go.WideShapes Go.ChangeAt Go.Deep
namespace Conf18
open Addr05 (tailF str_get drop_cons)
/-- The number that a word is, at most another one. -/
def lexF (s : List UInt8) (most : Int) : Option Nat :=
  if s = [] ∨ 18 < s.length ∨ (s.head? = some 48 ∧ 1 < s.length) then none else match tailF 0 s with
    | none => none
    | some n => if most < (n : Int) then none else some n
def lexV (r : Option Nat) : Value := .tuple #[.int .i64 ((r.getD 0 : Nat) : Int), .bool r.isSome]
set_option maxRecDepth 20000 in
set_option maxHeartbeats 8000000 in
theorem lexNum_any (s : List UInt8) (hs : s.length ≤ 1099511627776) (most : Int) (w : World) :
    Calls Tryd.prog 119 #[.string (str s), .int .i64 most] w fun e w' => e = .returned (lexV (lexF s most)) ∧ w' = w := by
  have hte : (str s).toList.isEmpty = s.isEmpty := by rw [show (str s).toList = s by simp [str, ByteArray.toList_eq]]
  have hsz : (str s).size = s.length := List.size_toArray
  by_cases h0 : s = []
  · have hN : lexF s most = none := by unfold lexF; rw [if_pos (.inl h0)]
    rw [hN]
    have t0 : (str s).toList.isEmpty = true := by rw [hte, h0]; rfl
    unfold lexV
    replace hN := hide hN
    replace h0 := hide h0
    clear hte
    go_enter Tryd.func119, Tryd.ntmps119
    go_wp2_with fail
    go_ret2
    exact ⟨rfl, rfl⟩
  have t0 : (str s).toList.isEmpty = false := by rw [hte]; simpa using h0
  have hlp : 0 < s.length := List.length_pos_iff.2 h0
  clear hte
  by_cases h18 : 18 < s.length
  · have hN : lexF s most = none := by unfold lexF; rw [if_pos (.inr (.inl h18))]
    rw [hN]
    have t1 : decide ((18 : Int) < (s.length : Int)) = true := by rw [decide_eq_true_eq]; omega
    unfold lexV
    replace hN := hide hN
    replace h0 := hide h0
    replace h18 := hide h18
    go_enter Tryd.func119, Tryd.ntmps119
    go_wp2_with fail
    go_ret2
    exact ⟨rfl, rfl⟩
  have t1 : decide ((18 : Int) < (s.length : Int)) = false := by rw [decide_eq_false_iff_not]; omega
  obtain ⟨c0, hc0⟩ : ∃ c, s[0]? = some c := ⟨_, List.getElem?_eq_getElem hlp⟩
  have hhd : s.head? = some c0 := by rw [List.head?_eq_getElem?]; exact hc0
  have e0 := str_get s 0 c0 hc0 (by omega)
  by_cases h48 : c0 = 48 ∧ 1 < s.length
  · have hN : lexF s most = none := by unfold lexF; rw [if_pos (.inr (.inr ⟨by rw [hhd, h48.1], h48.2⟩))]
    rw [hN]
    have t2 : decide ((1 : Int) < (s.length : Int)) = true := by rw [decide_eq_true_eq]; omega
    have t3 : ((c0.toNat : Int) == 48) = true := by rw [h48.1]; rfl
    have j2 : 1 < s.length := h48.2
    unfold lexV
    replace hN := hide hN
    replace h0 := hide h0
    replace h18 := hide h18
    replace h48 := hide h48
    replace hc0 := hide hc0
    replace hhd := hide hhd
    go_enter Tryd.func119, Tryd.ntmps119
    go_wp2_with fail
    go_ret2
    exact ⟨rfl, rfl⟩
  have hN : lexF s most = match tailF 0 s with | none => none | some n => if most < (n : Int) then none else some n := by
    unfold lexF
    rw [if_neg]
    rintro (h | h | ⟨h, h'⟩)
    · exact h0 h
    · exact h18 h
    · rw [hhd] at h
      exact h48 ⟨Option.some.inj h, h'⟩
  obtain ⟨F, hF⟩ : ∃ F, tailF 0 s = F := ⟨_, rfl⟩
  rw [hF] at hN
  obtain ⟨R, hR⟩ : ∃ R, lexF s most = R := ⟨_, rfl⟩
  rw [hR] at hN ⊢
  clear hR
  replace hN := hide hN
  replace hF := hide hF
  replace h0 := hide h0
  replace hc0 := hide hc0
  replace hhd := hide hhd
  go_enter Tryd.func119, Tryd.ntmps119
  go_upto_region 1 with fail
  go_cut [24] from 8 to 23 (fun bv wx => bv = .bool false ∧ w = wx)
  case first =>
    by_cases h48' : c0 = 48
    · have t3 : ((c0.toNat : Int) == 48) = true := by rw [h48']; rfl
      have t2 : decide ((1 : Int) < (s.length : Int)) = false := by rw [decide_eq_false_iff_not]; intro h; exact h48 ⟨h48', by omega⟩
      replace h48 := hide h48
      replace h48' := hide h48'
      replace h18 := hide h18
      go_wp2_with fail
      go_meet
      exact ⟨rfl, rfl⟩
    · have t3 : ((c0.toNat : Int) == 48) = false := by
        rw [beq_eq_false_iff_ne]
        intro h
        apply h48'
        apply UInt8.toNat_inj.1
        have : c0.toNat = 48 := by omega
        rw [this]; rfl
      replace h48 := hide h48
      replace h48' := hide h48'
      replace h18 := hide h18
      go_wp2_with fail
      go_meet
      exact ⟨rfl, rfl⟩
  case rest =>
    obtain ⟨rfl, rfl⟩ := hcut
    clear e0 t0 t1
    replace h48 := hide h48
    replace h18 := hide h18
    go_wp2_with fail
    go_loopw [6, 7, 27] (fun nv _ kv wr => ∃ (k n : Nat), k ≤ s.length ∧ nv = .int .i64 (n : Int) ∧ kv = .int .i64 (k : Int) ∧ tailF n (s.drop k) = F ∧ n < 10 ^ k ∧ w = wr) (fun _ _ kv _ => s.length - (intOf kv).toNat)
    case atStart => exact ⟨0, 0, by omega, rfl, rfl, hF.out, by decide, rfl⟩
    case round =>
      obtain ⟨k, n, hk, rfl, rfl, hf, hn, rfl⟩ := hrel
      have h18' := h18.out
      by_cases hks : k < s.length
      · have i1 : (k : Int) < (s.length : Int) := by omega
        have i2 : (0 : Int) ≤ (k : Int) := by omega
        obtain ⟨c, hc⟩ : ∃ c, s[k]? = some c := ⟨_, List.getElem?_eq_getElem hks⟩
        have hks2 : k < (str s).size := by omega
        have ek := str_get s k c hc hks2
        have hd : s.drop k = c :: s.drop (k + 1) := drop_cons hc
        rw [hd, tailF] at hf
        have hp : 10 ^ k ≤ 10 ^ 17 := Nat.pow_le_pow_right (by omega) (by omega)
        have hp1 : 10 ^ (k + 1) = 10 ^ k * 10 := Nat.pow_succ _ _
        obtain ⟨P, hP⟩ : ∃ P, 10 ^ k = P := ⟨_, rfl⟩
        rw [hP] at hp hp1 hn
        obtain ⟨v, hv⟩ : ∃ v, c.toNat = v := ⟨_, rfl⟩
        have hv256 : v < 256 := by have := c.toNat_lt; omega
        rw [hv] at hf
        have ek2 : ((c.toNat : Nat) : Int) = (v : Int) := by rw [hv]
        by_cases hdig : 48 ≤ v ∧ v ≤ 57
        · have n1 : ¬ (v : Int) < 48 := by omega
          have n2 : ¬ (57 : Int) < (v : Int) := by omega
          obtain ⟨d, hdd⟩ : ∃ d, v - 48 = d := ⟨_, rfl⟩
          have w1' : IntKind.i64.wrap (10 * (n : Int)) = ((10 * n : Nat) : Int) := by rw [wraps62 _ (by omega) (by omega)]; omega
          have w2' : IntKind.u8.wrap ((v : Int) - 48) = (d : Int) := by rw [IntKind.wrap_u8]; omega
          have w3' : IntKind.i64.wrap (d : Int) = (d : Int) := wraps62 _ (by omega) (by omega)
          rw [if_pos hdig, hdd] at hf
          have hd10 : d < 10 := by omega
          obtain ⟨n10, hn10⟩ : ∃ x, 10 * n = x := ⟨_, rfl⟩
          rw [hn10] at w1' hf
          obtain ⟨n2', hn2⟩ : ∃ x, n10 + d = x := ⟨_, rfl⟩
          have hb2 : n2' < P * 10 ∧ n2' < 1000000000000000000 := by omega
          have w4' : IntKind.i64.wrap ((n10 : Int) + (d : Int)) = (n2' : Int) := by rw [wraps62 _ (by omega) (by omega)]; omega
          rw [hn2] at hf
          replace hf := hide hf
          replace hc := hide hc
          replace hd := hide hd
          replace hP := hide hP
          replace hp1 := hide hp1
          replace hdig := hide hdig
          replace hdd := hide hdd
          replace hn10 := hide hn10
          replace hn2 := hide hn2
          replace hv := hide hv
          replace h18' := hide h18'
          go_wp2_with fail
          refine ⟨⟨k + 1, n2', by omega, by first | rfl | go_num, by first | rfl | go_num, hf.out, by rw [hp1.out]; exact hb2.1, by first | rfl | trivial⟩, by simp only [intOf]; omega⟩
        · rw [if_neg hdig] at hf
          obtain rfl : R = none := by rw [hN.out, ← hf]
          clear hN hF hf
          rcases Nat.lt_or_ge v 48 with h | h
          · have n1 : (v : Int) < 48 := by omega
            replace hc := hide hc
            replace hd := hide hd
            replace hP := hide hP
            replace hdig := hide hdig
            replace hv := hide hv
            replace h18' := hide h18'
            go_wp2_with fail
            go_ret2
            exact ⟨rfl, by first | rfl | trivial⟩
          · have n1 : ¬ (v : Int) < 48 := by omega
            have n2 : (57 : Int) < (v : Int) := by omega
            replace hc := hide hc
            replace hd := hide hd
            replace hP := hide hP
            replace hdig := hide hdig
            replace hv := hide hv
            replace h18' := hide h18'
            go_wp2_with fail
            go_ret2
            exact ⟨rfl, by first | rfl | trivial⟩
      · have i1 : ((k : Int) < (s.length : Int)) = False := by rw [eq_iff_iff, iff_false]; omega
        have hdn : s.drop k = [] := List.drop_of_length_le (by omega)
        rw [hdn, tailF] at hf
        have hR0 : R = if most < (n : Int) then none else some n := by rw [hN.out, ← hf]
        clear hN hF
        by_cases hm : most < (n : Int)
        · rw [if_pos hm] at hR0
          subst hR0
          replace hdn := hide hdn
          replace hf := hide hf
          go_wp2_with fail
          go_ret2
          exact ⟨rfl, by first | rfl | trivial⟩
        · rw [if_neg hm] at hR0
          subst hR0
          replace hdn := hide hdn
          replace hf := hide hf
          go_wp2_with fail
          go_ret2
          exact ⟨rfl, by first | rfl | trivial⟩
end Conf18
end Go.Proofs.YtbcicbiphgeghaaDoor
/- pfx: number: digits of a small number, held within 0 and 128. No condition. -/
namespace Go.Proofs.YtbcicbiphgeghaaDoor
open Go.RowKit Go.ChangeShapes Go.WideShapes Go.ChangeAt Go.Deep
namespace Addr05
theorem hexC_small (d : Nat) (h : d < 10) : Value.int .u8 (48 + (d : Int)) = u8v (hexC d) := by
  unfold u8v hexC
  rw [if_pos h]
  congr 1
  simp only [UInt8.toNat_ofNat']
  omega
set_option maxRecDepth 20000 in
set_option maxHeartbeats 4000000 in
theorem pnum_any (i : Int) (w : World) :
    Calls Tryd.prog 82 #[.int .i64 i] w fun e w' => e = .returned (.string (str (digL 10 (min (max i 0) 128).toNat))) ∧ Below w.heap.size w w' := by
  obtain ⟨m0, hm0⟩ : ∃ m : Nat, max i 0 = (m : Int) := ⟨(max i 0).toNat, by omega⟩
  obtain ⟨n, hn⟩ : ∃ n : Nat, min (m0 : Int) 128 = (n : Int) := ⟨(min (m0 : Int) 128).toNat, by omega⟩
  have hn128 : n ≤ 128 := by omega
  rw [hm0, hn, Int.toNat_natCast]
  go_enter Tryd.func82, Tryd.ntmps82
  go_wp2_with fail
  clear hm0 hn
  go_loopw [0, 3] (fun nv bv wr => ∃ (j m : Nat) (acc : List UInt8), j < 20 ∧ nv = .int .i64 (m : Int) ∧ m ≤ n ∧ m < 10 ^ (20 - j) ∧ digF 10 (20 - j) m ++ acc = digL 10 n ∧ acc.length = j ∧ OwnB wr w.heap.size bv acc ∧ Below w.heap.size w wr) (fun nv _ _ => (intOf nv).toNat)
  case atStart => exact ⟨0, n, [], by omega, rfl, Nat.le_refl _, by omega, by simp [digL], rfl, OwnB.nil _ _, Below.refl _ _⟩
  case round =>
    obtain ⟨j, m, acc, hj, rfl, hmn, hm, hd, hl, ho, hB⟩ := hrel
    obtain ⟨d, hdd⟩ : ∃ d, m % 10 = d := ⟨_, rfl⟩
    have hd10 : d < 10 := by omega
    have d1 : (m : Int) % 10 = (d : Int) := by omega
    have d2 : Int.tmod (m : Int) 10 = (d : Int) := by rw [Int.tmod_eq_emod_of_nonneg (by omega)]; omega
    have wd : IntKind.i64.wrap (48 + (d : Int)) = 48 + (d : Int) := wraps62 _ (by omega) (by omega)
    have wd8 : IntKind.u8.wrap (48 + (d : Int)) = 48 + (d : Int) := by rw [IntKind.wrap_u8]; omega
    have hlit := hexC_small d hd10
    replace hd := hide hd
    replace ho := hide ho
    replace hB := hide hB
    replace hlit := hide hlit
    obtain ⟨Ab, cb, rfl, hcb, hmb, hib⟩ := ho.out.form
    have hal := hl
    replace hib := hide hib
    replace hl := hide hl
    go_wp2_with (at_builtin; refine wpl_src_bv rfl (.tmp 13) (.tmp 14) rfl wr.heap.size (.slice (some ⟨wr.heap.size, 0, none⟩) 1 1) [hexC d] acc Ab acc.length cb wr.heap.size rfl rfl ?_ ?_ ?_ ?_ ?_)
    · exact OwnB.litv wr wr.heap.size _ [hexC d] 1 (by rw [hlit.out]; rfl) rfl (Nat.le_refl _) (by omega)
    · exact hib.out.below ((Below.refl _ _).alloc (Nat.le_refl _) _)
    · first | omega | simp
    · rw [List.length_singleton]; omega
    intro v2 w2 hown2 hg2
    have hb2 : Below wr.heap.size wr w2 := ((Below.refl _ _).alloc (Nat.le_refl _) _).trans (hg2.below (OwnB.litv wr wr.heap.size _ [hexC d] 1 (by rw [hlit.out]; rfl) rfl (Nat.le_refl _) (by omega)) (by simp))
    obtain ⟨q, hq⟩ : ∃ q, m / 10 = q := ⟨_, rfl⟩
    have q1 : (m : Int) / 10 = (q : Int) := by omega
    have q2 : Int.tdiv (m : Int) 10 = (q : Int) := by rw [Int.tdiv_eq_ediv_of_nonneg (by omega)]; omega
    have hsz := hB.out.size
    have hB2 := hB.out.trans (hb2.mono hsz)
    obtain ⟨t, ht⟩ : ∃ t, hexC d :: acc = t := ⟨_, rfl⟩
    have htl : t.length = j + 1 := by rw [← ht, List.length_cons, hl.out]
    rw [ht] at hown2
    obtain ⟨A2, c2, hv2, hc2, hm2, hi2⟩ := hown2.form
    rw [htl] at hv2 hc2 hi2
    subst hv2
    have hst := hi2.str c2
    have ho2 := hown2.weaken hsz
    clear hown2 hg2 hib ho
    have wq : IntKind.i64.wrap (q : Int) = (q : Int) := wraps62 _ (by omega) (by omega)
    replace hi2 := hide hi2
    replace hb2 := hide hb2
    replace hB2 := hide hB2
    replace ho2 := hide ho2
    replace hd := hide hd
    replace ht := hide ht
    replace hq := hide hq
    by_cases hz : m < 10
    · have t0 : decide ((m : Int) < 10) = true := by rw [decide_eq_true_eq]; omega
      go_wp2_with fail
      go_ret
      refine ⟨?_, hB2.out⟩
      obtain ⟨i, hi⟩ : ∃ i, 20 - j = i + 1 := ⟨19 - j, by omega⟩
      have h1 := hd.out.out
      rw [hi, digF_lt hz] at h1
      rw [Nat.mod_eq_of_lt hz] at hdd
      subst hdd
      have h3 : t = digL 10 n := by rw [← h1, ← ht.out]; rfl
      rw [← h3]
      rfl
    · have t0 : decide ((m : Int) < 10) = false := by rw [decide_eq_false_iff_not]; omega
      go_wp2_with fail
      have hqq := hq.out
      have hj19 : j < 19 := by
        rcases Nat.lt_or_ge j 19 with h | h
        · exact h
        · have e : j = 19 := by omega
          rw [e] at hm
          omega
      have h1 := hd.out.out
      have e2 : 20 - j = (19 - j) + 1 := by omega
      have e3 : 20 - (j + 1) = 19 - j := by omega
      rw [e2, digF_ge hz, hqq, hdd, List.append_assoc] at h1
      rw [e2, Nat.pow_succ] at hm
      refine ⟨⟨j + 1, q, t, by omega, rfl, by omega, ?_, ?_, htl, ho2.out, hB2.out⟩, ?_⟩
      · rw [e3, ← hqq]
        exact Nat.div_lt_of_lt_mul (by rw [Nat.mul_comm]; exact hm)
      · rw [e3, ← h1, ← ht.out]; rfl
      · simp only [intOf]; omega
end Addr05
end Go.Proofs.YtbcicbiphgeghaaDoor
/- addr: six: an address of version 6 out of a text. Condition: the cell of bytealg.MaxLen, a text of at most 80 bytes. -/
namespace Go.Proofs.YtbcicbiphgeghaaDoor
open Go.RowKit Go.ChangeShapes Go.WideShapes Go.ChangeAt Go.Deep
namespace Addr05
theorem below_drews (B : Nat) (w : World) (n : Nat) : Below B w (w.drewN n) := by
  induction n with
  | zero => exact Below.refl _ _
  | succ n ih => exact ih.drew
theorem cut_any (sep s : List UInt8) (hs : s.length ≤ 65536) (w : World) (hm : MaxAt w) :
    Calls Tryd.prog 80 #[.string (str s), .string (str sep)] w fun e w' => e = .returned (.tuple #[.string (str (Lib.cut s sep).1), .string (str (Lib.cut s sep).2.1), .bool (Lib.cut s sep).2.2]) ∧ Below w.heap.size w w' := by
  obtain ⟨m, hm⟩ := hm
  refine (Tryd.strings_Cut (str s) (str sep) m w (by rw [size_str]; omega) hm).mono ?_
  rintro e w' ⟨rfl, n, rfl⟩
  exact ⟨rfl, below_drews _ _ n⟩
theorem cut_len (s sep : List UInt8) : (Lib.cut s sep).1.length ≤ s.length ∧ (Lib.cut s sep).2.1.length ≤ s.length := by
  unfold Lib.cut
  split <;> simp
  omega
theorem splice_map {α β : Type} (f : α → β) (L : List α) (o : Nat) (cs : List α) : splice (L.map f) o (cs.map f) = (splice L o cs).map f := by
  simp [splice]
/-- Numbers are copied into a block. -/
theorem wpl_copy_u64 {w : World} {ops : Array Oper} {rest : List Oper} {o : Oper} {a : Act} {Q : Exit → Act → World → Prop} (hgd : o.guard = none) (d s : Operand)
    (ho : o.op = .call { callee := .builtin .copy, args := #[d, s], argTypes := #[221, 221] }) (g p dl dc m sc B : Nat) (dp A : Option Addr) (cs : List Nat) (ys : List Nat) {t : TypeId}
    (hd : a.eval d = .slice dp dl dc) (hs : a.eval s = .slice A m sc) (hg : w.heap[g]? = some (.cells (cs.map u64v).toArray t (0, 0))) (hr : IsR u64v w B A m ys) (hdp : 0 < m → dp = some ⟨g, p, none⟩) (hfit : p + m ≤ cs.length) (hk : m ≤ dl)
    (h : ∀ w', w'.heap[g]? = some (.cells ((splice cs p ys).map u64v).toArray t (0, 0)) → Below g w w' → wpList Tryd.prog ops Q rest (a.put o.dst (goInt m)) w') : wpList Tryd.prog ops Q (o :: rest) a w := by
  have hl := hr.len
  have hlm : (ys.map u64v).length = m := by rw [List.length_map, hl]
  refine wpList_copy_splice hgd d s _ _ ho 24 Tryd.underlying221 (by kernel_rfl) _ _ _ _ _ _ hd hs g p (cs.map u64v) t hg (ys.map u64v) ?_ ?_ ?_ ?_ g w (Below.refl _ _) (Nat.le_refl _) ?_
  · rw [hlm]; exact (Nat.min_eq_left hk).symm
  · intro h1
    rw [hlm] at h1
    obtain ⟨b2, off2, rfl, _, hcs2⟩ := hr.2 h1
    refine ⟨hdp h1, _, rfl, fun j v hj => ?_⟩
    obtain ⟨hj', rfl⟩ := List.getElem?_eq_some_iff.1 hj
    rw [hlm] at hj'
    rw [show Addr.add ⟨b2, off2, none⟩ j = (⟨b2, off2 + j, none⟩ : Addr) by unfold Addr.add; split <;> simp_all]
    rw [hcs2 j (by rw [hlm]; exact hj')]
  · rw [hlm, List.length_map]; exact hfit
  · intro v hv
    obtain ⟨x, _, rfl⟩ := List.mem_map.1 hv
    rfl
  intro w' hh' hb'
  rw [hlm]
  have h2 := hh'.out
  rw [splice_map] at h2
  exact h w' h2 hb'
theorem sixG_splice (a b : List Nat) (h : a.length + b.length ≤ 8) : splice (splice (List.replicate 8 0) 0 a) (8 - b.length) b = sixG a b := by
  unfold splice sixG
  rw [List.take_zero, List.nil_append, Nat.zero_add, List.drop_replicate, List.take_append, List.take_of_length_le (by omega), List.take_replicate,
    List.drop_of_length_le (by rw [List.length_append, List.length_replicate]; omega), List.append_nil, show min (8 - b.length - a.length) (8 - a.length) = 8 - (a.length + b.length) by omega]
theorem wordN_snoc (l : List Nat) (k x : Nat) (h : l[k]? = some x) : wordN (l.take (k + 1)) = wordN (l.take k) * 65536 + x := by
  unfold wordN
  rw [List.take_add_one, h]
  simp
theorem wordN_pow : ∀ (l : List Nat) (n : Nat), (∀ x ∈ l, x < 65536) → l.foldl (fun n x => n * 65536 + x) n < (n + 1) * 65536 ^ l.length
  | [], n, _ => by simp
  | x :: r, n, h => by
    rw [List.foldl_cons, List.length_cons, Nat.pow_succ]
    have h1 := wordN_pow r (n * 65536 + x) fun y hy => h y (List.mem_cons_of_mem _ hy)
    have hx := h x List.mem_cons_self
    refine Nat.lt_of_lt_of_le h1 ?_
    rw [Nat.mul_comm (65536 ^ r.length) 65536, ← Nat.mul_assoc]
    exact Nat.mul_le_mul_right _ (by omega)
theorem wordN_take (l : List Nat) (k : Nat) (h : ∀ x ∈ l, x < 65536) (hk : k ≤ 3) : wordN (l.take k) < 281474976710656 := by
  have h1 := wordN_pow (l.take k) 0 fun x hx => h x (List.mem_of_mem_take hx)
  rw [Nat.zero_add, Nat.one_mul] at h1
  refine Nat.lt_of_lt_of_le h1 ?_
  refine Nat.le_trans (Nat.pow_le_pow_right (by omega) (show (l.take k).length ≤ 3 by rw [List.length_take]; omega)) (by decide)
theorem u64_or16 (n v : Nat) (hv : v < 65536) (hn : n < 281474976710656) : bits .or .u64 (((n * 65536 : Nat)) : Int) (v : Int) = ((n * 65536 + v : Nat) : Int) :=
  bits_join .u64 64 (by decide) wrapsu64 16 _ _ (by omega) (by omega) (by omega) (by omega) (by omega) (by omega)
theorem alloc_adr (o : Oper) (h : o.op = .alloc 26) (ρ : Operand → Value) (w : World) : (execOp ρ o).run Tryd.prog w = .ok (.value (.pointer (some ⟨w.heap.size, 0, none⟩))) (w.alloc (.cells #[.bool false, .int .u64 0, .int .u64 0] 26)) := by
  obtain ⟨d, op, t, ps, af, g⟩ := o
  dsimp only at h
  subst h
  kernel_rfl
theorem nums_len : ∀ (xs : List (List UInt8)) (l : List Nat), nums xs = some l → l.length = xs.length
  | [], l, h => by simp [nums] at h; subst h; rfl
  | x :: r, l, h => by
    rw [nums] at h
    split at h
    · obtain ⟨l', hl', rfl⟩ := Option.map_eq_some_iff.1 h
      simp [nums_len r l' hl']
    · cases h
theorem list_len (s : List UInt8) : ((listF s).getD []).length ≤ s.length + 1 := by
  cases h : listF s with
  | none => simp
  | some l =>
    unfold listF at h
    split at h
    · cases h; simp
    · have h1 := nums_len _ _ h
      have h2 := split_len 58 s
      simp only [Option.getD_some]
      omega
def adrO : Option (Nat × Nat) → Array Value
  | none => #[.bool false, .int .u64 0, .int .u64 0]
  | some p => #[.bool true, .int .u64 (p.1 : Int), .int .u64 (p.2 : Int)]
set_option maxRecDepth 20000 in
set_option maxHeartbeats 8000000 in
theorem six_any (s : List UInt8) (hs : s.length ≤ 80) (w : World) (hm : MaxAt w) :
    Calls Tryd.prog 117 #[.string (str s)] w fun e w' => e = .returned (.tuple #[.agg (adrO (sixF s)), .bool (sixF s).isSome]) ∧ Below w.heap.size w w' := by
  obtain ⟨R, hR⟩ : ∃ R, sixF s = R := ⟨_, rfl⟩
  rw [hR]
  obtain ⟨w1, hw1⟩ : ∃ w1, w.alloc (.cells #[.bool false, .int .u64 0, .int .u64 0] 26) = w1 := ⟨_, rfl⟩
  have hB : Below w.heap.size w w1 := hw1 ▸ (Below.refl _ _).alloc (Nat.le_refl _) _
  have hg : w1.heap[w.heap.size]? = some (.cells #[.bool false, .int .u64 0, .int .u64 0] 26 (0, 0)) := hw1 ▸ blk_new _ _ _
  have hzw : w.heap.size < w1.heap.size := by rw [← hw1]; simp
  have hm1 := hm.below hB
  have hcut := cut_any [58, 58] s (by omega) w1 hm1
  have hcl := cut_len s [58, 58]
  have hRF := hR.symm
  unfold sixF at hRF
  obtain ⟨H, hH⟩ : ∃ x, (Lib.cut s [58, 58]).1 = x := ⟨_, rfl⟩
  obtain ⟨T, hT⟩ : ∃ x, (Lib.cut s [58, 58]).2.1 = x := ⟨_, rfl⟩
  obtain ⟨C, hC⟩ : ∃ x, (Lib.cut s [58, 58]).2.2 = x := ⟨_, rfl⟩
  rw [hH, hT, hC] at hRF hcut
  rw [hH, hT] at hcl
  have hlA := list_any H (by omega)
  have hlB := list_any T (by omega)
  have hn1 := list_len H
  have hn2 := list_len T
  have hL1 := list_lt H
  have hL2 := list_lt T
  obtain ⟨LA, hLA⟩ : ∃ x, listF H = x := ⟨_, rfl⟩
  obtain ⟨LB, hLB⟩ : ∃ x, listF T = x := ⟨_, rfl⟩
  rw [hLA] at hlA hL1 hRF hn1
  rw [hLB] at hlB hL2 hRF hn2
  obtain ⟨x, hx⟩ : ∃ x, LA.isSome = x := ⟨_, rfl⟩
  obtain ⟨y, hy⟩ : ∃ x, LB.isSome = x := ⟨_, rfl⟩
  obtain ⟨la, hla⟩ : ∃ x, LA.getD [] = x := ⟨_, rfl⟩
  obtain ⟨lb, hlb⟩ : ∃ x, LB.getD [] = x := ⟨_, rfl⟩
  rw [hx, hla] at hlA
  rw [hla] at hn1
  rw [hlb] at hn2
  rw [hy, hlb] at hlB
  have hn1 : la.length ≤ 81 := by omega
  have hn2 : lb.length ≤ 81 := by omega
  clear hH hT hC hLA hLB hR hcl
  replace hB := hide hB
  replace hg := hide hg
  replace hcut := hide hcut
  replace hRF := hide hRF
  replace hlA := hide hlA
  replace hlB := hide hlB
  replace hL1 := hide hL1
  replace hL2 := hide hL2
  replace hx := hide hx
  replace hy := hide hy
  replace hla := hide hla
  replace hlb := hide hlb
  replace hm := hide hm
  replace hm1 := hide hm1
  go_enter Tryd.func117, Tryd.ntmps117
  go_wp2_with fail
  clear hw1
  refine hcut.out.mono ?_
  rintro e w2 ⟨rfl, hb2⟩
  have hg2 := blk_below hb2 hzw hg.out
  have hB2 := hB.out.trans (hb2.mono hB.out.size)
  have hz2 := hb2.size
  have hm2 := hm1.out.below hb2
  clear hb2 hcut hg hB hm1
  replace hg2 := hide hg2
  replace hB2 := hide hB2
  replace hm2 := hide hm2
  go_wp2_with fail
  refine (hlA.out w2 hm2.out).mono ?_
  rintro e w3 ⟨va, rfl, hva, hb3⟩
  have hg3 := blk_below hb3 (by omega) hg2.out
  have hB3 := hB2.out.trans (hb3.mono hB2.out.size)
  have hz3 := hb3.size
  have hm3 := hm2.out.below hb3
  clear hb3 hlA hg2 hB2 hm2
  replace hg3 := hide hg3
  replace hB3 := hide hB3
  replace hm3 := hide hm3
  replace hva := hide hva
  go_wp2_with fail
  refine (hlB.out w3 hm3.out).mono ?_
  rintro e w4 ⟨vb, rfl, hvb, hb4⟩
  have hva4 := hva.out.below hb4
  have hg4 := blk_below hb4 (by omega) hg3.out
  have hB4 := hB3.out.trans (hb4.mono hB3.out.size)
  have hz4 := hb4.size
  clear hb4 hlB hg3 hB3 hm3 hva
  obtain ⟨A, ca, rfl, hca, hcam, hxa⟩ := hva4.form
  obtain ⟨A2, cb, rfl, hcb, hcbm, hxb⟩ := hvb.form
  unfold maxLen at hcam hcbm
  replace hg4 := hide hg4
  replace hB4 := hide hB4
  replace hva4 := hide hva4
  replace hvb := hide hvb
  replace hxa := hide hxa
  replace hxb := hide hxb
  obtain ⟨n, hn⟩ : ∃ n, la.length + lb.length = n := ⟨_, rfl⟩
  have wa : IntKind.i64.wrap ((la.length : Int) + (lb.length : Int)) = (n : Int) := by rw [wraps62 _ (by omega) (by omega)]; omega
  obtain ⟨b1, hb1⟩ : ∃ b, decide ((8 : Int) < (n : Int)) = b := ⟨_, rfl⟩
  obtain ⟨b2, hb2⟩ : ∃ b, ((la.length : Int) != 8) = b := ⟨_, rfl⟩
  obtain ⟨BAD, hBAD⟩ : ∃ b, (!x || !y || b1 || (!C && b2)) = b := ⟨_, rfl⟩
  replace hBAD := hide hBAD
  replace hn := hide hn
  go_upto_region 4 with fail
  go_cut [52] (fun bv wx => bv = .bool BAD ∧ w4 = wx)
  case first =>
    have hbad := hBAD.out
    clear hBAD
    replace hbad := hide hbad
    cases x
    · go_wp2_with fail
      go_meet
      exact ⟨by rw [← hbad.out]; rfl, rfl⟩
    cases y
    · go_wp2_with fail
      go_meet
      exact ⟨by rw [← hbad.out]; rfl, rfl⟩
    cases b1
    · cases C
      · cases b2
        · go_wp2_with fail
          go_meet
          exact ⟨by rw [← hbad.out]; rfl, rfl⟩
        · go_wp2_with fail
          go_meet
          exact ⟨by rw [← hbad.out]; rfl, rfl⟩
      · go_wp2_with fail
        go_meet
        exact ⟨by rw [← hbad.out]; rfl, rfl⟩
    · go_wp2_with fail
      go_meet
      exact ⟨by rw [← hbad.out]; rfl, rfl⟩
  case rest =>
    obtain ⟨rfl, rfl⟩ := hcut
    cases BAD
    · have hok : R = some (wordN ((sixG la lb).take 4), wordN ((sixG la lb).drop 4)) ∧ n ≤ 8 ∧ (∀ x ∈ la, x < 65536) ∧ (∀ x ∈ lb, x < 65536) := by
        have h1 := hBAD.out
        have h2 := hRF.out
        have h3 := hx.out
        have h4 := hy.out
        have h5 := hla.out
        have h6 := hlb.out
        have h7 := hL1.out
        have h8 := hL2.out
        have h9 := hn.out
        clear hBAD hRF hx hy hla hlb hL1 hL2 hn
        cases LA with
        | none => cases h3; simp at h1
        | some a =>
          cases LB with
          | none => cases h4; simp at h1
          | some b =>
            cases h3
            cases h4
            cases h5
            cases h6
            simp only [Option.isSome_some, Bool.not_true, Bool.false_or, Option.getD_some] at h1 h9 hb2 ⊢
            rw [Bool.or_eq_false_iff] at h1
            have hb1' : ¬ (8 : Int) < (n : Int) := of_decide_eq_false (hb1.trans h1.1)
            refine ⟨?_, by omega, h7 a rfl, h8 b rfl⟩
            rw [h2]
            dsimp only
            rw [if_neg]
            rintro (h | ⟨h, h'⟩)
            · omega
            · have h10 := h1.2
              rw [h, Bool.not_false, Bool.true_and] at h10
              rw [h10] at hb2
              simp at hb2
              omega
      obtain ⟨hR0, hn8, hl1, hl2⟩ := hok
      have hGl := sixG_len la lb (by have := hn.out; omega)
      have hGs := sixG_splice la lb (by have := hn.out; omega)
      have hGm := sixG_lt la lb hl1 hl2
      obtain ⟨G, hG⟩ : ∃ G, sixG la lb = G := ⟨_, rfl⟩
      rw [hG] at hR0 hGl hGs hGm
      subst hR0
      have hnl := hn.out
      clear hBAD hRF hx hy hla hlb hL1 hL2 hb1 hb2 wa hl1 hl2
      replace hGl := hide hGl
      replace hGs := hide hGs
      replace hGm := hide hGm
      replace hG := hide hG
      go_upto_region 6 with fail
      apply wp_region_lit
      refine Go.Great.wpList_runTo rfl (some 11) rfl _ _ (alloc_g8 _ rfl _ _) ?_
      have hg5 : (w4.alloc (.cells (grA 0 0 0) 189)).heap[w4.heap.size]? = some (.cells ((List.replicate 8 0).map u64v).toArray 189 (0, 0)) := blk_new _ _ _
      have hb5 : Below w4.heap.size w4 (w4.alloc (.cells (grA 0 0 0) 189)) := (Below.refl _ _).alloc (Nat.le_refl _) _
      have hz5 : w4.heap.size < (w4.alloc (.cells (grA 0 0 0) 189)).heap.size := by simp
      obtain ⟨w5, hw5⟩ : ∃ w5, w4.alloc (.cells (grA 0 0 0) 189) = w5 := ⟨_, rfl⟩
      rw [hw5] at hg5 hb5 hz5 ⊢
      clear hw5
      have hz4' := hB4.out.size
      have hzw4 : w.heap.size < w4.heap.size := by omega
      have hr5 := blk_below hb5 (by omega) hg4.out
      have hB5 := hB4.out.trans (hb5.mono hB4.out.size)
      clear hva4 hvb
      replace hg5 := hide hg5
      replace hr5 := hide hr5
      replace hB5 := hide hB5
      replace hb5 := hide hb5
      refine wpList_nil ?_
      go_simp
      go_upto_region 7 with fail
      apply wp_region_lit
      iterate 2 (refine wpList_plain rfl fun K hK => ?_; go_simp; refine hK _ _ ?_; clear hK K)
      refine wpl_copy_u64 rfl (.tmp 54) (.tmp 55) rfl w4.heap.size 0 8 8 la.length ca w4.heap.size (some ⟨w4.heap.size, 0, none⟩) A (List.replicate 8 0) la rfl rfl hg5.out (IsV.below hxa.out hb5.out) (fun _ => rfl) (by rw [List.length_replicate]; omega) (by omega) fun w6 hg6 hb6 => ?_
      have hr6 := hb6.block _ hzw4 |>.trans hr5.out
      have hB6 := hB5.out.trans (hb6.mono hz4')
      have hz6' := hb6.size
      have hb6 := hb5.out.trans hb6
      have hz6 := hb6.size
      clear hr5 hB5 hb5 hg5 hxa
      replace hg6 := hide hg6
      replace hr6 := hide hr6
      replace hB6 := hide hB6
      replace hb6 := hide hb6
      refine wpList_nil ?_
      go_simp
      obtain ⟨p, hp⟩ : ∃ p, 8 - lb.length = p := ⟨_, rfl⟩
      have wp : IntKind.i64.wrap (8 - (lb.length : Int)) = (p : Int) := by rw [wraps62 _ (by omega) (by omega)]; omega
      have hp8 : p ≤ 8 := by omega
      have hp0 : (0 : Int) ≤ (p : Int) := by omega
      have hp8i : (p : Int) ≤ 8 := by omega
      go_upto_region 8 with fail
      go_cut [] (fun wx => wx.heap[w4.heap.size]? = some (.cells (G.map u64v).toArray 189 (0, 0)) ∧ Below w4.heap.size w6 wx)
      case first =>
        by_cases hpe : p = 8
        · have hl0 : lb.length = 0 := by omega
          have wp8 : IntKind.i64.wrap (8 - (lb.length : Int)) = 8 := by rw [wraps62 _ (by omega) (by omega)]; omega
          clear wp hp8 hp8i hp0
          replace hl0 := hide hl0
          replace hpe := hide hpe
          apply wp_region_lit
          iterate 5 (refine wpList_plain rfl fun K hK => ?_; go_simp; refine hK _ _ ?_; clear hK K)
          refine wpl_copy_u64 rfl (.tmp 60) (.tmp 61) rfl w4.heap.size 8 0 0 lb.length cb w4.heap.size _ A2 _ lb rfl rfl hg6.out (IsV.below hxb.out hb6.out) (fun h => absurd h (by rw [hl0.out]; omega)) (by rw [hl0.out, length_splice _ _ _ (by rw [List.length_replicate]; omega), List.length_replicate]; omega) (by rw [hl0.out]; omega) fun w7 hg7 hb7 => ?_
          rw [show (8 : Nat) = 8 - lb.length by rw [hl0.out], show (List.replicate (8 - lb.length) 0) = List.replicate 8 0 by rw [hl0.out], hGs.out] at hg7
          clear hl0 hpe
          replace hg7 := hide hg7
          replace hb7 := hide hb7
          refine wpList_nil ?_
          go_wp2_with fail
          go_meet
          exact ⟨hg7.out, hb7.out⟩
        · have hpe' : ¬ 8 = p := by omega
          apply wp_region_lit
          iterate 5 (refine wpList_plain rfl fun K hK => ?_; go_simp; refine hK _ _ ?_; clear hK K)
          refine wpl_copy_u64 rfl (.tmp 60) (.tmp 61) rfl w4.heap.size p (8 - p) (8 - p) lb.length cb w4.heap.size (some ⟨w4.heap.size, p, none⟩) A2 _ lb rfl rfl hg6.out (IsV.below hxb.out hb6.out) (fun _ => rfl) (by rw [length_splice _ _ _ (by rw [List.length_replicate]; omega), List.length_replicate]; omega) (by omega) fun w7 hg7 hb7 => ?_
          rw [← hp, hGs.out] at hg7
          clear hpe hpe'
          replace hg7 := hide hg7
          replace hb7 := hide hb7
          refine wpList_nil ?_
          go_wp2_with fail
          go_meet
          exact ⟨hg7.out, hb7.out⟩
      case rest =>
        obtain ⟨hg7, hb7⟩ := hcut
        have hr7 := hb7.block _ hzw4 |>.trans hr6.out
        have hB7 := hB6.out.trans (hb7.mono hz4')
        have hz7 := hb7.size
        clear hr6 hB6 hb6 hg6 hxb hb7 wp hp8 hp8i hp0 hp
        replace hg7 := hide hg7
        replace hr7 := hide hr7
        replace hB7 := hide hB7
        go_upto_region 9 with fail
        apply wp_region_lit
        iterate 1 (refine wpList_plain rfl fun K hK => ?_; go_simp; refine hK _ _ ?_; clear hK K)
        have hzc : w4.heap.size < wc.heap.size := by omega
        refine wpl_new rfl rfl 26 _ (alloc_adr _ rfl) 12 rfl (.tmp 63) rfl _ (fun _ => rfl) (fun _ => rfl) rfl (by kernel_rfl) (adr_one true 0 0) ?_
        intro w8 hg8 hb8 hz8
        have hG8 := blk_below hb8 hzc hg7.out
        have hr8 := blk_below hb8 (by omega) hr7.out
        have hB8 := hB7.out.trans (hb8.mono hB7.out.size)
        clear hg7 hr7 hB7 hb8
        replace hg8 := hide hg8
        replace hG8 := hide hG8
        replace hr8 := hide hr8
        replace hB8 := hide hB8
        refine wpList_nil ?_
        go_simp
        obtain ⟨gg, hgg⟩ : ∃ x, w4.heap.size = x := ⟨_, rfl⟩
        obtain ⟨oo, hoo⟩ : ∃ x, wc.heap.size = x := ⟨_, rfl⟩
        rw [hgg] at hzc hG8 hzw4 ⊢
        rw [hoo] at hzc hg8 hz8 ⊢
        replace hgg := hide hgg
        replace hoo := hide hoo
        go_upto_block 2 with fail
        go_loopw [13, 64] (fun _ iv wr => ∃ k : Nat, k ≤ 4 ∧ iv = .int .i64 (k : Int) ∧ wr.heap[w.heap.size]? = some (.cells #[.bool false, .int .u64 0, .int .u64 0] 26 (0, 0)) ∧ wr.heap[gg]? = some (.cells (G.map u64v).toArray 189 (0, 0)) ∧ wr.heap[oo]? = some (.cells #[.bool true, .int .u64 ((wordN (G.take k) : Nat) : Int), .int .u64 ((wordN ((G.drop 4).take k) : Nat) : Int)] 26 (0, 0)) ∧ Below w.heap.size w wr ∧ oo < wr.heap.size) (fun _ iv _ => 4 - (intOf iv).toNat)
        case atStart => exact ⟨0, by omega, rfl, hr8.out, hG8.out, hg8.out, hB8.out, hz8⟩
        case round =>
          obtain ⟨k, hk, rfl, hrs, hgG, hgO, hBr, hzr⟩ := hrel
          clear hg8 hG8 hr8 hB8
          by_cases hk4 : k < 4
          · have i1 : (k : Int) < 4 := by omega
            have i2 : (0 : Int) ≤ (k : Int) := by omega
            have hG8l := hGl.out
            obtain ⟨k4, hk4'⟩ : ∃ x, k + 4 = x := ⟨_, rfl⟩
            have wa : IntKind.i64.wrap ((k : Int) + 4) = (k4 : Int) := by rw [wraps62 _ (by omega) (by omega)]; omega
            obtain ⟨v1, hv1⟩ : ∃ v, G[k]? = some v := ⟨_, List.getElem?_eq_getElem (by omega)⟩
            obtain ⟨v2, hv2⟩ : ∃ v, G[k4]? = some v := ⟨_, List.getElem?_eq_getElem (by omega)⟩
            have hv2' : (G.drop 4)[k]? = some v2 := by rw [List.getElem?_drop, Nat.add_comm, hk4', hv2]
            have hv1l := hGm.out v1 (List.mem_of_getElem? hv1)
            have hv2l := hGm.out v2 (List.mem_of_getElem? hv2)
            have eG1 : ((G.map u64v).toArray)[k]? = some (.int .u64 (v1 : Int)) := by rw [List.getElem?_toArray, List.getElem?_map, hv1]; rfl
            have eG2 : ((G.map u64v).toArray)[k4]? = some (.int .u64 (v2 : Int)) := by rw [List.getElem?_toArray, List.getElem?_map, hv2]; rfl
            have s1 := wordN_snoc G k v1 hv1
            have s2 := wordN_snoc (G.drop 4) k v2 hv2'
            have l1 := wordN_take G k hGm.out (by omega)
            have l2 := wordN_take (G.drop 4) k (fun x hx => hGm.out x (List.mem_of_mem_drop hx)) (by omega)
            obtain ⟨n1, hn1'⟩ : ∃ x, wordN (G.take k) = x := ⟨_, rfl⟩
            obtain ⟨n2, hn2'⟩ : ∃ x, wordN ((G.drop 4).take k) = x := ⟨_, rfl⟩
            rw [hn1'] at s1 l1 hgO
            rw [hn2'] at s2 l2 hgO
            have o1 := u64_or16 n1 v1 hv1l l1
            have o2 := u64_or16 n2 v2 hv2l l2
            have x1 : IntKind.u64.wrap ((n1 : Int) * 65536) = ((n1 * 65536 : Nat) : Int) := by rw [IntKind.wrap_u64]; omega
            have x2 : IntKind.u64.wrap ((n2 : Int) * 65536) = ((n2 * 65536 : Nat) : Int) := by rw [IntKind.wrap_u64]; omega
            rw [← s1] at o1
            rw [← s2] at o2
            obtain ⟨m1, hm1'⟩ : ∃ x, n1 * 65536 = x := ⟨_, rfl⟩
            obtain ⟨m2, hm2'⟩ : ∃ x, n2 * 65536 = x := ⟨_, rfl⟩
            obtain ⟨p1, hp1⟩ : ∃ x, wordN (G.take (k + 1)) = x := ⟨_, rfl⟩
            obtain ⟨p2, hp2⟩ : ∃ x, wordN ((G.drop 4).take (k + 1)) = x := ⟨_, rfl⟩
            rw [hm1'] at o1 x1
            rw [hm2'] at o2 x2
            rw [hp1] at o1
            rw [hp2] at o2
            have i5 : (k4 : Int) < 8 := by omega
            have i6 : (k : Int) < 8 := by omega
            have i7 : (0 : Int) ≤ (k4 : Int) := by omega
            clear s1 s2 l1 l2 hv1 hv2 hv2'
            replace hrs := hide hrs
            replace hgG := hide hgG
            replace hgO := hide hgO
            replace hBr := hide hBr
            replace hp1 := hide hp1
            replace hp2 := hide hp2
            replace hm1' := hide hm1'
            replace hm2' := hide hm2'
            replace hn1' := hide hn1'
            replace hn2' := hide hn2'
            replace hk4' := hide hk4'
            go_wp2_with fail
            refine wp_region_W [16, 18] wr.heap.size (fun j => j = oo) (by as_aux_lemma => kernel_rfl) ?_
            intro wd hbd
            have hzd := hbd.size
            have hOd := blk_below hbd (by omega) hgO.out
            have hGd := blk_below hbd (by omega) hgG.out
            have hRd := blk_below hbd (by have := hzr; omega) hrs.out
            have hBd := hBr.out.trans (hbd.mono hBr.out.size)
            obtain ⟨w16, e16, hg16, gr16⟩ := store_cell hOd 1 (.int .u64 (p1 : Int))
            have hg16 : w16.heap[oo]? = some (.cells #[.bool true, .int .u64 (p1 : Int), .int .u64 (n2 : Int)] 26 (0, 0)) := hg16
            obtain ⟨w18, e18, hg18, gr18⟩ := store_cell hg16 2 (.int .u64 (p2 : Int))
            have hg18 : w18.heap[oo]? = some (.cells #[.bool true, .int .u64 (p1 : Int), .int .u64 (p2 : Int)] 26 (0, 0)) := hg18
            have hA1 := fun (l : KeptSW wr.heap.size (fun _ => False) wd) => blk_cell (l.blk hOd (by omega) id) 1
            have hA2 := fun (l : KeptSW wr.heap.size (fun _ => False) wd) => blk_cell (l.blk hOd (by omega) id) 2
            have hA3 := fun (l : KeptSW wr.heap.size (fun _ => False) wd) => (blk_cell (l.blk hGd (by omega) id) k).trans eG1
            have hA4 := fun (l : KeptSW wr.heap.size (fun j => j = oo) wd) => (blk_cell (l.blk hGd (by omega) (by omega)) k4).trans eG2
            have c16 := blk_cell hOd 1
            have c18 := blk_cell hg16 2
            have f16 := blk_free hOd 1
            have f18 := blk_free hg16 2
            replace hg16 := hide hg16
            replace hg18 := hide hg18
            replace gr16 := hide gr16
            replace gr18 := hide gr18
            replace hOd := hide hOd
            replace hGd := hide hGd
            replace hRd := hide hRd
            replace hBd := hide hBd
            replace hbd := hide hbd
            replace eG1 := hide eG1
            replace eG2 := hide eG2
            refine wpWH_seg [16, 18] wr.heap.size (fun j => j = oo) 0 9 (fuel := 10) (by as_aux_lemma => kernel_rfl) (fun d _ _ _ _ h => by cases d <;> exact h) (by as_aux_lemma => kernel_rfl) (by as_aux_lemma => kernel_rfl) (by as_aux_lemma => kernel_rfl) ?_
            simp only [List.drop_zero, List.take_succ_cons, List.take_zero]
            iterate 9 (refine wpQS_step (fun K hK => ?_); go_simp; refine hK _ ?_; clear hK K)
            refine wpQF_nil ?_
            refine wpWS_seg [16, 18] wr.heap.size (fun j => j = oo) 9 6 (fuel := 4) (by as_aux_lemma => kernel_rfl) (fun d _ _ _ _ h => by cases d <;> exact h) (by as_aux_lemma => kernel_rfl) (by as_aux_lemma => kernel_rfl) ?_
            simp only [List.drop_succ_cons, List.drop_zero, List.take_succ_cons, List.take_zero]
            iterate 6 (refine wpQS_step (fun K hK => ?_); go_simp; refine hK _ ?_; clear hK K)
            refine wpQF_nil ?_
            clear hA1 hA2 hA3 hA4
            refine wpW_step 15 rfl (by as_aux_lemma => kernel_rfl) (fun K hK => ?_)
            go_simp
            refine hK _ _ (relS_refl _ _ _ _ _) ?_
            clear hK K
            refine wpW_step 16 rfl (by as_aux_lemma => kernel_rfl) (fun K hK => ?_)
            go_simp
            refine hK _ _ (relS_of rfl ⟨gr16.out.os, gr16.out.tape, gr16.out.output, gr16.out.size, fun j hj hne => gr16.out.block j (by omega) (fun e => hne (by cases e; rfl))⟩) ?_
            clear hK K
            refine wpW_step 17 rfl (by as_aux_lemma => kernel_rfl) (fun K hK => ?_)
            go_simp
            refine hK _ _ (relS_refl _ _ _ _ _) ?_
            clear hK K
            refine wpW_step 18 rfl (by as_aux_lemma => kernel_rfl) (fun K hK => ?_)
            go_simp
            refine hK _ _ (relS_of rfl ⟨gr18.out.os, gr18.out.tape, gr18.out.output, gr18.out.size, fun j hj hne => gr18.out.block j (by have := gr16.out.size; omega) (fun e => hne (by cases e; rfl))⟩) ?_
            clear hK K
            refine wpW_done (by as_aux_lemma => kernel_rfl) ?_ _
            clear e16 e18 c16 c18 f16 f18
            have hz16 := gr16.out.size
            have hz18 := gr18.out.size
            have hG18 := grown_other gr18.out (by omega) (by omega) (grown_other gr16.out (by omega) (by omega) hGd.out)
            have hR18 := grown_other gr18.out (by omega) (by omega) (grown_other gr16.out (by omega) (by omega) hRd.out)
            have hB18 : Below w.heap.size w w18 := (hBd.out.trans (below_grown gr16.out (by omega) (by omega))).trans (below_grown gr18.out (by omega) (by omega))
            have hO18 := hg18.out
            rw [← hp1.out, ← hp2.out] at hO18
            clear hg16 hg18 gr16 gr18 hOd hGd hRd hBd hbd hrs hgG hgO hBr hp1 hp2
            replace hG18 := hide hG18
            replace hR18 := hide hR18
            replace hB18 := hide hB18
            replace hO18 := hide hO18
            go_wp2_with fail
            refine ⟨⟨k + 1, by omega, by first | rfl | go_num, hR18.out, hG18.out, hO18.out, hB18.out, by omega⟩, by simp only [intOf]; omega⟩
          · have hk9 : k = 4 := by omega
            subst hk9
            have t8 : (G.drop 4).take 4 = G.drop 4 := List.take_of_length_le (by rw [List.length_drop, hGl.out]; decide)
            rw [t8] at hgO
            obtain ⟨N1, hN1⟩ : ∃ x, wordN (G.take 4) = x := ⟨_, rfl⟩
            obtain ⟨N2, hN2⟩ : ∃ x, wordN (G.drop 4) = x := ⟨_, rfl⟩
            rw [hN1, hN2] at hgO
            replace hrs := hide hrs
            replace hgG := hide hgG
            replace hgO := hide hgO
            replace hBr := hide hBr
            replace hN1 := hide hN1
            replace hN2 := hide hN2
            go_upto_region 15 with fail
            apply wp_region_lit
            refine wpl_ld rfl 26 (.tmp 12) rfl oo rfl _ _ hgO.out Tryd.underlying26 rfl (by kernel_rfl) ?_
            refine wpl_st rfl 26 (.tmp 2) (.tmp 85) rfl (w.heap.size) 0 rfl (#[.bool true, .int .u64 (N1 : Int), .int .u64 (N2 : Int)]) rfl hrs.out (by simp) (by kernel_rfl) (adr_one _ _ _) fun w9 hg9 g9 => ?_
            rw [putA_whole _ _ (by rfl)] at hg9
            have hb9 : Below (w.heap.size) w w9 := (hBr.out).trans (below_grown g9 (by have := (hBr.out).size; omega) (Nat.le_refl _))
            have hld : (loadVar 26 ⟨w.heap.size, 0, none⟩).run Tryd.prog w9 = .ok (.agg (#[.bool true, .int .u64 (N1 : Int), .int .u64 (N2 : Int)])) w9 := by
              simpa using run_loadVar_mid w9 (w.heap.size) 0 26 (#[.bool true, .int .u64 (N1 : Int), .int .u64 (N2 : Int)]).toList _ (blk_range hg9) Tryd.underlying26 rfl (by kernel_rfl)
            clear hg9 g9
            replace hld := hide hld
            replace hb9 := hide hb9
            iterate 1 (refine wpList_plain rfl fun K hK => ?_; go_simp; refine hK _ _ ?_; clear hK K)
            refine wpList_nil ?_
            go_simp
            go_wp2_with fail
            exact bodyPost_ret (v := .tuple #[.agg #[.bool true, .int .u64 (N1 : Int), .int .u64 (N2 : Int)], .bool true]) (by simp [results, Tryd.results117, asAddr, hld.out, Result.andThen]) rfl ⟨by rw [hN1.out, hN2.out]; rfl, hb9.out⟩
    · have hR0 : R = none := by
        have h1 := hBAD.out
        have h2 := hRF.out
        have h3 := hx.out
        have h4 := hy.out
        have h5 := hla.out
        have h6 := hlb.out
        have h9 := hn.out
        clear hBAD hRF hx hy hla hlb hL1 hL2 hn
        rw [h2]
        cases LA with
        | none => rfl
        | some a =>
          cases LB with
          | none => rfl
          | some b =>
            cases h3
            cases h4
            cases h5
            cases h6
            simp only [Option.isSome_some, Bool.not_true, Bool.false_or, Option.getD_some] at h1 h9 hb2 ⊢
            rw [if_pos]
            rw [Bool.or_eq_true] at h1
            rcases h1 with h | h
            · rw [h] at hb1
              have := of_decide_eq_true hb1
              exact .inl (by omega)
            · rw [Bool.and_eq_true] at h
              refine .inr ⟨by simpa using h.1, ?_⟩
              rw [h.2] at hb2
              simp at hb2
              omega
      subst hR0
      clear hBAD hRF hx hy hla hlb hL1 hL2 hb1 hb2 wa hn hxa hxb hva4 hvb
      go_upto_region 5 with fail
      apply wp_region_lit
      iterate 1 (refine wpList_plain rfl fun K hK => ?_; go_simp; refine hK _ _ ?_; clear hK K)
      refine wpl_st rfl 26 (.tmp 2) (.tmp 53) rfl (w.heap.size) 0 rfl (#[.bool false, .int .u64 0, .int .u64 0]) rfl hg4.out (by simp) (by kernel_rfl) (adr_one _ _ _) fun w9 hg9 g9 => ?_
      rw [putA_whole _ _ (by rfl)] at hg9
      have hb9 : Below (w.heap.size) w w9 := (hB4.out).trans (below_grown g9 (by have := (hB4.out).size; omega) (Nat.le_refl _))
      have hld : (loadVar 26 ⟨w.heap.size, 0, none⟩).run Tryd.prog w9 = .ok (.agg (#[.bool false, .int .u64 0, .int .u64 0])) w9 := by
        simpa using run_loadVar_mid w9 (w.heap.size) 0 26 (#[.bool false, .int .u64 0, .int .u64 0]).toList _ (blk_range hg9) Tryd.underlying26 rfl (by kernel_rfl)
      clear hg9 g9
      replace hld := hide hld
      replace hb9 := hide hb9
      iterate 1 (refine wpList_plain rfl fun K hK => ?_; go_simp; refine hK _ _ ?_; clear hK K)
      refine wpList_nil ?_
      go_simp
      go_wp2_with fail
      exact bodyPost_ret (v := .tuple #[.agg #[.bool false, .int .u64 0, .int .u64 0], .bool false]) (by simp [results, Tryd.results117, asAddr, hld.out, Result.andThen]) rfl ⟨rfl, hb9.out⟩
end Addr05
end Go.Proofs.YtbcicbiphgeghaaDoor
