/- Plain: bytes, made again of the number that was read of them. No condition. -/
import Derived.Test.YtccmbnaakdffaaaDoorQAddrParses2
import Derived.Test.YtccmbnaakdffaaaDoorQAddrParses1
import Derived.Test.YtccmbnaakdffaaaDoorQAddrParses7
import Derived.Test.YtccmbnaakdffaaaDoorQAddrOrders1
import Derived.Test.YtccmbnaakdffaaaDoorQAddrParses3
import Derived.Laws.CopyOwn
namespace Go.Proofs.YtccmbnaakdffaaaDoor
theorem of8m {a b : Nat} (h : a % 256 = b % 256) : UInt8.ofNat a = UInt8.ofNat b := by
  apply UInt8.toNat.inj
  rw [UInt8.toNat_ofNat', UInt8.toNat_ofNat']
  omega
theorem beB_snocM (a b : Nat) (hb : b < 256) : ∀ k, beB (a * 256 + b) (k + 1) = beB a k ++ [UInt8.ofNat b]
  | 0 => by
    simp only [beB, List.nil_append, Nat.pow_zero, Nat.div_one]
    rw [of8m (show (a * 256 + b) % 256 = b % 256 by omega)]
  | k + 1 => by
    have ih := beB_snocM a b hb k
    rw [beB, ih, beB, List.cons_append]
    congr 2
    rw [Nat.pow_succ, Nat.mul_comm (256 ^ k) 256, ← Nat.div_div_eq_div_mul]
    congr 1
    omega
theorem beB_beNM (xs : List UInt8) (p : Nat) : ∀ k, p + k ≤ xs.length → beB (beN xs p k) k = (xs.drop p).take k
  | 0, _ => by simp [beB]
  | k + 1, h => by
    have ih := beB_beNM xs p k (by omega)
    have hlt := (xs.getD (p + k) 0).toNat_lt
    rw [beN, beB_snocM _ _ (by omega), ih, List.take_add_one, List.getElem?_drop]
    congr 1
    have h1 : xs[p + k]? = some xs[p + k] := List.getElem?_eq_getElem (by omega)
    simp [List.getD, h1]
end Go.Proofs.YtccmbnaakdffaaaDoor
/- octet.Set where the number lies within: the bytes with that number at its place, in a row of the call's own. Conditions: 1 to 8 bytes within, sizes below 2^39. -/
namespace Go.Proofs.YtccmbnaakdffaaaDoor
open Go.RowKit Go.ChangeShapes Go.WideShapes Go.ChangeAt Go.Deep
def setB (xs : List UInt8) (p : Nat) (ys : List UInt8) : List UInt8 := xs.take p ++ (ys ++ xs.drop (p + ys.length))
theorem setB_length (xs : List UInt8) (p : Nat) (ys : List UInt8) (h : p + ys.length ≤ xs.length) : (setB xs p ys).length = xs.length := by simp [setB]; omega
theorem OwnB.row {w : World} {base : Nat} {A : Option Addr} {n c : Nat} {xs : List UInt8} (h : OwnB w base (.slice A n c) xs) (hn : 0 < n) :
    ∃ g cur, A = some ⟨g, 0, none⟩ ∧ base ≤ g ∧ w.heap[g]? = some (.cells (List.toArray cur) 5 (0, 0)) ∧ cur.length = c ∧ cur.take n = xs.map u8v ∧ n ≤ c ∧ c ≤ maxLen ∧ xs.length = n := by
  have hl := h.reads.1
  rcases h.2 with ⟨e, _⟩ | ⟨g, cap, cur, e, hg, hh, hn', hm, hs, ht⟩
  · cases e
    omega
  · cases e
    exact ⟨g, cur.toList, rfl, hg, by simpa using hh, by simpa using hs, by simpa [hl] using ht, hn', hm, hl⟩
theorem own_of_row {w : World} {base g n c : Nat} {cur : List Value} {xs : List UInt8} (hg : base ≤ g) (hh : w.heap[g]? = some (.cells cur.toArray 5 (0, 0))) (hc : cur.length = c) (ht : cur.take n = xs.map u8v) (hn : n ≤ c) (hm : c ≤ maxLen) (hl : xs.length = n) :
    OwnB w base (.slice (some ⟨g, 0, none⟩) n c) xs := by
  subst hl
  exact ⟨by simp, .inr ⟨g, c, cur.toArray, rfl, hg, hh, hn, hm, by simpa using hc, by simpa using ht⟩⟩
theorem splice_take (cur : List Value) (xs ys : List UInt8) (n p : Nat) (ht : cur.take n = xs.map u8v) (_hn : n ≤ cur.length) (hl : xs.length = n) (h : p + ys.length ≤ n) : (splice cur p (ys.map u8v)).take n = (setB xs p ys).map u8v := by
  have hc : cur = xs.map u8v ++ cur.drop n := by rw [← ht, List.take_append_drop]
  have e1 : cur.take p = (xs.take p).map u8v := by
    rw [hc, List.take_append_of_le_length (by rw [List.length_map]; omega), List.map_take]
  have e2 : cur.drop (p + ys.length) = (xs.drop (p + ys.length)).map u8v ++ cur.drop n := by
    conv => lhs; rw [hc]
    rw [List.drop_append_of_le_length (by rw [List.length_map]; omega), List.map_drop]
  unfold splice setB
  rw [List.length_map, e1, e2, List.map_append, List.map_append, ← List.append_assoc, ← List.append_assoc, ← List.append_assoc]
  rw [List.take_append_of_le_length (by simp; omega), List.take_of_length_le (by simp; omega)]
end Go.Proofs.YtccmbnaakdffaaaDoor
/- Plain facts on bytes that are put and read again, and on the check among them. No condition. -/
namespace Go.Proofs.YtccmbnaakdffaaaDoor
theorem beB_getD (N : Nat) : ∀ (k j : Nat), j < k → (beB N k).getD j 0 = UInt8.ofNat (N / 256 ^ (k - 1 - j))
  | 0, j, h => by omega
  | k + 1, 0, _ => by simp [beB]
  | k + 1, j + 1, h => by
    simp only [beB, List.getD_cons_succ]
    rw [beB_getD N k j (by omega), show k + 1 - 1 - (j + 1) = k - 1 - j by omega]
theorem getD_mid (pre mid post : List UInt8) (j : Nat) (h : j < mid.length) : (pre ++ (mid ++ post)).getD (pre.length + j) 0 = mid.getD j 0 := by
  simp only [List.getD]
  rw [List.getElem?_append_right (by omega), show pre.length + j - pre.length = j by omega, List.getElem?_append_left h]
theorem beN_mid (N k : Nat) (pre post : List UInt8) (p : Nat) (hp : pre.length = p) : ∀ j, j ≤ k → beN (pre ++ (beB N k ++ post)) p j = N / 256 ^ (k - j) % 256 ^ j
  | 0, _ => by simp [beN, Nat.mod_one]
  | j + 1, h => by
    subst hp
    have ih := beN_mid N k pre post pre.length rfl j (by omega)
    rw [beN, ih, getD_mid _ _ _ _ (by rw [beB_length]; omega), beB_getD _ _ _ (by omega), UInt8.toNat_ofNat']
    rw [show k - 1 - j = k - (j + 1) by omega]
    have e1 : N / 256 ^ (k - j) = N / 256 ^ (k - (j + 1)) / 256 := by
      rw [show k - j = (k - (j + 1)) + 1 by omega, Nat.pow_succ, Nat.div_div_eq_div_mul]
    rw [e1]
    generalize N / 256 ^ (k - (j + 1)) = M
    rw [show 256 ^ (j + 1) = 256 * 256 ^ j by rw [Nat.pow_succ, Nat.mul_comm], Nat.mod_mul]
    omega
theorem beN_put (N k : Nat) (pre post : List UInt8) (p : Nat) (hp : pre.length = p) (hN : N < 256 ^ k) : beN (pre ++ (beB N k ++ post)) p k = N := by
  rw [beN_mid N k pre post p hp k (Nat.le_refl _)]
  simp [Nat.mod_eq_of_lt hN]
namespace Sum
theorem ones_check (T : Nat) : ones (T + (65535 - ones T)) = 65535 := by
  unfold ones
  split
  · rename_i h0
    subst h0
    rfl
  · have h1 : (T - 1) % 65535 < 65535 := Nat.mod_lt _ (by omega)
    have h2 : T + (65535 - ((T - 1) % 65535 + 1)) ≠ 0 := by omega
    rw [if_neg h2]
    omega
theorem tot_two (c : Nat) (hc : c ≤ 65535) : tot false (beB c 2) = c := by
  simp only [beB, tot, UInt8.toNat_ofNat']
  simp
  omega
/-- The sum behind a check that is set where two zeros stood, at an even place. -/
theorem tot_set (pre xs : List UInt8) (p c : Nat) (hc : c ≤ 65535) (hp : p + 2 ≤ xs.length) (h0 : (xs.drop p).take 2 = [0, 0]) (he : (pre.length + p) % 2 = 0) : tot false (pre ++ setB xs p (beB c 2)) = tot false (pre ++ xs) + c := by
  have hx : xs = xs.take p ++ ([0, 0] ++ xs.drop (p + 2)) := by
    rw [← h0, ← List.drop_drop, List.take_append_drop, List.take_append_drop]
  have hl : (xs.take p).length = p := by rw [List.length_take]; omega
  conv => rhs; rw [hx]
  unfold setB
  rw [beB_length]
  have hpar : (false ^^ decide (pre.length % 2 = 1) ^^ decide ((xs.take p).length % 2 = 1)) = false := by
    rw [hl]
    by_cases h1 : pre.length % 2 = 1 <;> by_cases h2 : p % 2 = 1 <;> simp [h1, h2] <;> omega
  rw [tot_append, tot_append, tot_append, tot_append, tot_append, tot_append, hpar, tot_two c hc]
  have e2 : tot false ([0, 0] : List UInt8) = 0 := by simp [tot]
  rw [e2, beB_length]
  simp only [List.length_cons, List.length_nil, Nat.zero_add, Nat.reduceAdd]
  omega
end Sum
end Go.Proofs.YtccmbnaakdffaaaDoor
/- pfx: plain: masks and bits of addresses. No condition. -/
namespace Go.Proofs.YtccmbnaakdffaaaDoor
open Go.RowKit Go.ChangeShapes Go.WideShapes Go.ChangeAt Go.Deep
namespace Addr05
/-- A number whose last so many bits are 0. -/
def mkB (x k : Nat) : Nat := x / 2 ^ k * 2 ^ k
theorem mkB_le (x k : Nat) : mkB x k ≤ x := Nat.div_mul_le_self _ _
theorem testBit_mkB (x k j : Nat) : (mkB x k).testBit j = (decide (k ≤ j) && x.testBit j) := by
  unfold mkB
  rw [← Nat.shiftRight_eq_div_pow, ← Nat.shiftLeft_eq, Nat.testBit_shiftLeft, Nat.testBit_shiftRight]
  by_cases h : k ≤ j
  · simp [h]
  · simp [h]
theorem mkB_eq_iff (x k : Nat) : mkB x k = x ↔ ∀ j < k, x.testBit j = false := by
  constructor
  · intro h j hj
    have := testBit_mkB x k j
    rw [h] at this
    simpa [Nat.not_le.2 hj] using this
  · intro h
    apply Nat.eq_of_testBit_eq
    intro j
    rw [testBit_mkB]
    by_cases hk : k ≤ j
    · simp [hk]
    · simp [hk, h j (by omega)]
theorem mkB_eq_mkB_iff (x y k : Nat) : mkB x k = mkB y k ↔ ∀ j, k ≤ j → x.testBit j = y.testBit j := by
  constructor
  · intro h j hj
    have h1 := testBit_mkB x k j
    have h2 := testBit_mkB y k j
    rw [h, h2] at h1
    simpa [hj] using h1.symm
  · intro h
    apply Nat.eq_of_testBit_eq
    intro j
    rw [testBit_mkB, testBit_mkB]
    by_cases hk : k ≤ j
    · simp [hk, h j hk]
    · simp [hk]
theorem mod2_testBit (x j : Nat) : x / 2 ^ j % 2 = (x.testBit j).toNat := by
  rw [Nat.testBit_eq_decide_div_mod_eq]
  have : x / 2 ^ j % 2 < 2 := Nat.mod_lt _ (by omega)
  by_cases h : x / 2 ^ j % 2 = 1
  · simp [h]
  · have : x / 2 ^ j % 2 = 0 := by omega
    simp [this]
/-- How many bits. -/
def Adr.w (a : Adr) : Nat := if a.v6 then 128 else 32
/-- The number that an address's bits are. -/
def Adr.V (a : Adr) : Nat := if a.v6 then a.hi * 18446744073709551616 + a.lo else a.lo
/-- A bit, from the highest on. -/
def Adr.bit (a : Adr) (i : Nat) : Nat := if i < a.w then (if a.v6 then (if i < 64 then a.hi / 2 ^ (63 - i) % 2 else a.lo / 2 ^ (127 - i) % 2) else a.lo / 2 ^ (31 - i) % 2) else 0
theorem Adr.V_lo (a : Adr) (ho : a.ok) (h6 : a.v6 = true) (j : Nat) (hj : j < 64) : a.V.testBit j = a.lo.testBit j := by
  unfold Adr.V
  rw [if_pos h6, show a.hi * 18446744073709551616 = 2 ^ 64 * a.hi by omega, Nat.testBit_two_pow_mul_add _ ho.2, if_pos hj]
theorem Adr.V_hi (a : Adr) (ho : a.ok) (h6 : a.v6 = true) (j : Nat) (hj : 64 ≤ j) : a.V.testBit j = a.hi.testBit (j - 64) := by
  unfold Adr.V
  rw [if_pos h6, show a.hi * 18446744073709551616 = 2 ^ 64 * a.hi by omega, Nat.testBit_two_pow_mul_add _ ho.2, if_neg (by omega)]
theorem Adr.bit_V (a : Adr) (ho : a.ok) (i : Nat) (h : i < a.w) : a.bit i = (a.V.testBit (a.w - 1 - i)).toNat := by
  unfold Adr.bit
  rw [if_pos h]
  by_cases h6 : a.v6 = true
  · have hw : a.w = 128 := by unfold Adr.w; rw [if_pos h6]
    rw [hw] at h ⊢
    rw [if_pos h6]
    split
    · rw [mod2_testBit, a.V_hi ho h6 _ (by omega)]
      congr 2
      omega
    · rw [mod2_testBit, a.V_lo ho h6 _ (by omega)]
  · have hw : a.w = 32 := by unfold Adr.w; rw [if_neg h6]
    rw [hw] at h ⊢
    rw [if_neg h6, mod2_testBit]
    unfold Adr.V
    rw [if_neg h6]
/-- What Mask makes: at so many bits that there can be. -/
def Adr.mask (a : Adr) (b : Nat) : Adr := if a.v6 then ⟨true, mkB a.hi (64 - min b 64), mkB a.lo (64 - (b - 64))⟩ else ⟨false, a.hi, mkB a.lo (32 - b)⟩
theorem Adr.mask_v6 (a : Adr) (b : Nat) : (a.mask b).v6 = a.v6 := by
  unfold Adr.mask
  cases h : a.v6 <;> simp
theorem Adr.mask_w (a : Adr) (b : Nat) : (a.mask b).w = a.w := by unfold Adr.w; rw [Adr.mask_v6]
theorem Adr.mask_ok (a : Adr) (ho : a.ok) (b : Nat) : (a.mask b).ok := by
  unfold Adr.mask
  have h1 := ho.1
  have h2 := ho.2
  split
  · exact ⟨Nat.lt_of_le_of_lt (mkB_le _ _) h1, Nat.lt_of_le_of_lt (mkB_le _ _) h2⟩
  · exact ⟨h1, Nat.lt_of_le_of_lt (mkB_le _ _) h2⟩
theorem Adr.mask_right (a : Adr) (hr : a.right) (b : Nat) : (a.mask b).right := by
  unfold Adr.mask
  rcases hr with h | h
  · rw [if_pos h]; exact .inl rfl
  · split
    · exact .inl rfl
    · exact .inr ⟨h.1, Nat.lt_of_le_of_lt (mkB_le _ _) h.2⟩
theorem Adr.mask_V (a : Adr) (ho : a.ok) (b : Nat) (hb : b ≤ a.w) : (a.mask b).V = mkB a.V (a.w - b) := by
  apply Nat.eq_of_testBit_eq
  intro j
  rw [testBit_mkB]
  have ho' := a.mask_ok ho b
  by_cases h6 : a.v6 = true
  · have hw : a.w = 128 := by unfold Adr.w; rw [if_pos h6]
    rw [hw] at hb ⊢
    have hm6 : (a.mask b).v6 = true := by rw [a.mask_v6, h6]
    by_cases hj : j < 64
    · rw [(a.mask b).V_lo ho' hm6 j hj, a.V_lo ho h6 j hj]
      unfold Adr.mask
      rw [if_pos h6, testBit_mkB]
      congr 1
      by_cases h1 : 128 - b ≤ j
      · simp [h1]; omega
      · simp [h1]; omega
    · rw [(a.mask b).V_hi ho' hm6 j (by omega), a.V_hi ho h6 j (by omega)]
      unfold Adr.mask
      rw [if_pos h6, testBit_mkB]
      congr 1
      by_cases h1 : 128 - b ≤ j
      · simp [h1]; omega
      · simp [h1]; omega
  · have hw : a.w = 32 := by unfold Adr.w; rw [if_neg h6]
    rw [hw] at hb ⊢
    unfold Adr.mask Adr.V
    rw [if_neg h6, if_neg h6]
    exact testBit_mkB _ _ _
theorem Adr.ext_V (a b : Adr) (h6 : a.v6 = b.v6) (hoa : a.ok) (hob : b.ok) (hra : a.right) (hrb : b.right) (h : a.V = b.V) : a = b := by
  obtain ⟨v, hi, lo⟩ := a
  obtain ⟨v', hi', lo'⟩ := b
  dsimp only at h6
  subst h6
  unfold Adr.V at h
  obtain ⟨h1, h2⟩ := hoa
  obtain ⟨h3, h4⟩ := hob
  dsimp only at h h1 h2 h3 h4
  cases v
  · rcases hra with e | e
    · cases e
    · rcases hrb with e' | e'
      · cases e'
      · obtain ⟨rfl, _⟩ := e
        obtain ⟨rfl, _⟩ := e'
        simp at h
        simp [h]
  · simp only [if_true] at h
    have : hi = hi' := by omega
    have : lo = lo' := by omega
    simp [*]
theorem Adr.V_lt (a : Adr) (ho : a.ok) (hr : a.right) : a.V < 2 ^ a.w := by
  have h1 := ho.1
  have h2 := ho.2
  unfold Adr.V Adr.w
  split
  · have : (2 : Nat) ^ 128 = 18446744073709551616 * 18446744073709551616 := by decide
    rw [this]
    have : a.hi * 18446744073709551616 + 18446744073709551616 ≤ 18446744073709551616 * 18446744073709551616 := by omega
    omega
  · rename_i h6
    rcases hr with h | h
    · exact absurd h h6
    · exact h.2
/-- Masked is as it was: there are no bits behind. -/
theorem Adr.mask_eq (a : Adr) (ho : a.ok) (hr : a.right) (b : Nat) (hb : b ≤ a.w) : a.mask b = a ↔ ∀ i, b ≤ i → i < a.w → a.bit i = 0 := by
  have e1 : a.mask b = a ↔ (a.mask b).V = a.V := ⟨fun h => by rw [h], fun h => Adr.ext_V _ _ (a.mask_v6 b) (a.mask_ok ho b) ho (a.mask_right hr b) hr h⟩
  rw [e1, a.mask_V ho b hb, mkB_eq_iff]
  constructor
  · intro h i hi hw
    rw [a.bit_V ho i hw, h _ (by omega)]
    rfl
  · intro h j hj
    have h1 := h (a.w - 1 - j) (by omega) (by omega)
    rw [a.bit_V ho _ (by omega), show a.w - 1 - (a.w - 1 - j) = j by omega] at h1
    cases h2 : a.V.testBit j
    · rfl
    · rw [h2] at h1; cases h1
/-- Masked is a prefix's address: the first bits are alike. -/
theorem Adr.mask_eq2 (a p : Adr) (ho : a.ok) (hr : a.right) (hop : p.ok) (hrp : p.right) (h6 : a.v6 = p.v6) (b : Nat) (hb : b ≤ a.w) (hp : p.mask b = p) : a.mask b = p ↔ ∀ i, i < b → p.bit i = a.bit i := by
  have hw : a.w = p.w := by unfold Adr.w; rw [h6]
  have e1 : a.mask b = p ↔ (a.mask b).V = p.V := ⟨fun h => by rw [h], fun h => Adr.ext_V _ _ ((a.mask_v6 b).trans h6) (a.mask_ok ho b) hop (a.mask_right hr b) hrp h⟩
  have e2 : p.V = mkB p.V (p.w - b) := by
    have := p.mask_V hop b (by omega)
    rw [hp] at this
    exact this
  rw [e1, a.mask_V ho b hb, e2, ← hw, mkB_eq_mkB_iff]
  have hT : ∀ x y : Bool, x.toNat = y.toNat ↔ x = y := by decide
  constructor
  · intro h i hi
    rw [a.bit_V ho i (by omega), p.bit_V hop i (by omega), h _ (by omega), hw]
  · intro h j hj
    by_cases hjw : j < a.w
    · have h1 := h (a.w - 1 - j) (by omega)
      rw [a.bit_V ho _ (by omega), p.bit_V hop _ (by omega), hT, ← hw, show a.w - 1 - (a.w - 1 - j) = j by omega] at h1
      exact h1.symm
    · have hz : ∀ x : Nat, x < 2 ^ a.w → x.testBit j = false := fun x hx => Nat.testBit_lt_two_pow (Nat.lt_of_lt_of_le hx (Nat.pow_le_pow_right (by omega) (by omega)))
      rw [hz _ (a.V_lt ho hr), hz _ (by rw [hw]; exact p.V_lt hop hrp)]
/-- The bits of what Mask makes. -/
theorem Adr.mask_bit (a : Adr) (ho : a.ok) (b : Nat) (hb : b ≤ a.w) (i : Nat) (hi : i < a.w) : (a.mask b).bit i = if i < b then a.bit i else 0 := by
  rw [(a.mask b).bit_V (a.mask_ok ho b) i (by rw [a.mask_w]; exact hi), a.mask_V ho b hb, a.mask_w, testBit_mkB, a.bit_V ho i hi]
  by_cases h : i < b
  · rw [if_pos h]
    have : a.w - b ≤ a.w - 1 - i := by omega
    simp [this]
  · rw [if_neg h]
    have : ¬ a.w - b ≤ a.w - 1 - i := by omega
    simp [this]
end Addr05
end Go.Proofs.YtccmbnaakdffaaaDoor
/- addr: get: bytes as a number. Conditions: at most 2^40 bytes. -/
namespace Go.Proofs.YtccmbnaakdffaaaDoor
open Go.RowKit Go.ChangeShapes Go.WideShapes Go.ChangeAt Go.Deep
namespace Addr05
def getN (l : List UInt8) : Nat := l.foldl (fun n c => (n * 256 + c.toNat) % 18446744073709551616) 0
theorem getN_snoc (l : List UInt8) (k : Nat) (h : k < l.length) : getN (l.take (k + 1)) = (getN (l.take k) * 256 + (l.getD k 0).toNat) % 18446744073709551616 := by
  have e : l.take (k + 1) = l.take k ++ [l[k]] := by rw [List.take_add_one, List.getElem?_eq_getElem h]; rfl
  have e2 : l.getD k 0 = l[k] := by rw [List.getD_eq_getElem?_getD, List.getElem?_eq_getElem h]; rfl
  unfold getN
  rw [e, e2, List.foldl_append]
  rfl
theorem getN_lt (l : List UInt8) : getN l < 18446744073709551616 := by
  unfold getN
  rcases List.eq_nil_or_concat l with rfl | ⟨r, x, rfl⟩
  · decide
  · simp only [List.concat_eq_append, List.foldl_append, List.foldl_cons, List.foldl_nil]
    exact Nat.mod_lt _ (by omega)
set_option maxRecDepth 20000 in
set_option maxHeartbeats 8000000 in
theorem get_any (A : Option Addr) (n c : Nat) (xs : List UInt8) (w : World) (hx : IsB w w.heap.size A n xs) (hnm : n ≤ 1099511627776) :
    Calls Tryd.prog 51 #[.slice A n c] w fun e w' => e = .returned (.int .u64 (getN xs : Int)) ∧ w' = w := by
  have hl := hx.1
  replace hx := hide hx
  go_enter Tryd.func51, Tryd.ntmps51
  go_wp2_with fail
  go_loopw [3, 8] (fun nv kv wr => ∃ k : Nat, k ≤ n ∧ kv = .int .i64 (k : Int) ∧ nv = .int .u64 ((getN (xs.take k) : Nat) : Int) ∧ wr = w) (fun _ kv _ => n - (intOf kv).toNat)
  case atStart => exact ⟨0, by omega, rfl, rfl, rfl⟩
  case round =>
    obtain ⟨k, hk, rfl, rfl, rfl⟩ := hrel
    by_cases hkn : k < n
    · have i1 : (k : Int) < (n : Int) := by omega
      have i2 : (0 : Int) ≤ (k : Int) := by omega
      obtain ⟨b, off, y, rfl, hb, hy, hyl, hcy⟩ := hx.out.byte hkn
      have s1 := getN_snoc xs k (by omega)
      rw [hy] at s1
      have l1 := getN_lt (xs.take k)
      obtain ⟨g, hg⟩ : ∃ g, getN (xs.take k) = g := ⟨_, rfl⟩
      obtain ⟨g', hg'⟩ : ∃ g, getN (xs.take (k + 1)) = g := ⟨_, rfl⟩
      rw [hg, hg'] at s1
      rw [hg] at l1 ⊢
      have o1 := u64_or8 g y (by omega) l1
      have wp : IntKind.u64.wrap ((g : Int) * 256) = ((g * 256 % 18446744073709551616 : Nat) : Int) := by rw [IntKind.wrap_u64]; omega
      have wy : IntKind.u64.wrap (y : Int) = (y : Int) := wrapsu64 _ (by omega) (by omega)
      have e1 : g * 256 % 18446744073709551616 + y = g' := by omega
      rw [e1] at o1
      obtain ⟨p, hp⟩ : ∃ p, g * 256 % 18446744073709551616 = p := ⟨_, rfl⟩
      rw [hp] at o1 wp
      clear s1 e1
      replace hp := hide hp
      replace hg := hide hg
      replace hg' := hide hg'
      replace hy := hide hy
      go_wp2_with fail
      refine ⟨⟨k + 1, by omega, by first | rfl | go_num, by rw [hg'.out], by first | rfl | trivial⟩, by simp only [intOf]; omega⟩
    · have e : k = n := by omega
      have i1 : ((k : Int) < (n : Int)) = False := by rw [eq_iff_iff, iff_false]; omega
      have et : xs.take k = xs := List.take_of_length_le (by omega)
      rw [et]
      replace et := hide et
      replace e := hide e
      go_wp2_with fail
      go_ret
      exact ⟨rfl, by first | rfl | trivial⟩
end Addr05
end Go.Proofs.YtccmbnaakdffaaaDoor
/- addr: Of, Bit: an address out of bytes; a bit of an address. Conditions: at most 2^40 bytes; numbers of 64 bits. -/
namespace Go.Proofs.YtccmbnaakdffaaaDoor
open Go.RowKit Go.ChangeShapes Go.WideShapes Go.ChangeAt Go.Deep
/-- A struct is stored, at place o of a block: one operation. -/
theorem wp_st {P : Program} {op : Oper} {a : Act} {w : World} {K : Act → World → Prop} {Q : Exit → Act → World → Prop} (ty : TypeId) (x y : Operand) (ho : op.op = .store ty x y) (g o : Nat) (hx : a.eval x = .pointer (some ⟨g, o, none⟩)) (vs : Array Value) (hy : a.eval y = .agg vs)
    {cs : Array Value} {t : TypeId} (hc : w.heap[g]? = some (.cells cs t (0, 0))) (hn : o + vs.size ≤ cs.size) (hi : (P.info? ty).map (·.size) = some vs.size) (h1 : vs.all (·.oneCell') = true)
    (h : ∀ w', w'.heap[g]? = some (.cells (putA cs o vs.toList) t (0, 0)) → w.grownBy w' (some g) → K (a.put op.dst undef) w') : op.wp P a w K Q := by
  obtain ⟨w', e, h2, h3⟩ := stored_at (o := o) hc vs.toList (by simpa using hn)
  refine wp_store_mid ty x y ho g o vs hx hy (blk_there hc hn) hi h1 ?_
  rw [e]
  exact h w' h2 h3
namespace Addr05
theorem get_bel (A : Option Addr) (n c : Nat) (xs : List UInt8) (w : World) (hx : IsB w w.heap.size A n xs) (hnm : n ≤ 1099511627776) :
    Calls Tryd.prog 51 #[.slice A n c] w fun e w' => e = .returned (.int .u64 (getN xs : Int)) ∧ Below w.heap.size w w' :=
  (get_any A n c xs w hx hnm).mono fun _ _ h => ⟨h.1, h.2 ▸ Below.refl _ _⟩
def ofR (xs : List UInt8) : Option Adr := if xs.length = 4 then some ⟨false, 0, getN xs % 4294967296⟩ else if xs.length = 16 then some ⟨true, getN (xs.take 8), getN (xs.drop 8)⟩ else none
set_option maxRecDepth 20000 in
set_option maxHeartbeats 8000000 in
theorem Of_any (A : Option Addr) (n c : Nat) (xs : List UInt8) (w : World) (hx : IsB w w.heap.size A n xs) (hnc : n ≤ c) (hcm : c ≤ maxLen) (hnm : n ≤ 1099511627776) :
    Calls Tryd.prog 23 #[.slice A n c] w fun e w' => e = .returned (.tuple #[.agg (adrP (ofR xs)), .int .i64 (if (ofR xs).isSome then 0 else 12)]) ∧ Below w.heap.size w w' := by
  obtain ⟨w1, hw1⟩ : ∃ w1, w.alloc (.cells #[.bool false, .int .u64 0, .int .u64 0] 24) = w1 := ⟨_, rfl⟩
  have hB : Below w.heap.size w w1 := hw1 ▸ (Below.refl _ _).alloc (Nat.le_refl _) _
  have hg : w1.heap[w.heap.size]? = some (.cells #[.bool false, .int .u64 0, .int .u64 0] 24 (0, 0)) := hw1 ▸ blk_new _ _ _
  have hzw : w.heap.size < w1.heap.size := by rw [← hw1]; simp
  have hx1 := hx.on hB
  have hl := hx.1
  unfold ofR
  rw [hl]
  by_cases h4 : n = 4
  · subst h4
    rw [if_pos rfl]
    have hG := get_any A 4 c xs w1 hx1 (by omega)
    have hlt := getN_lt xs
    obtain ⟨g, hgn⟩ : ∃ g, getN xs = g := ⟨_, rfl⟩
    rw [hgn] at hG hlt ⊢
    have wg : IntKind.u32.wrap (g : Int) = ((g % 4294967296 : Nat) : Int) := by rw [IntKind.wrap_u32]; omega
    have hV := V4_any (g % 4294967296) (by omega) w1
    obtain ⟨q, hq⟩ : ∃ q, g % 4294967296 = q := ⟨_, rfl⟩
    rw [hq] at hV wg ⊢
    clear hx hx1
    replace hB := hide hB
    replace hg := hide hg
    replace hG := hide hG
    replace hgn := hide hgn
    replace hV := hide hV
    replace hq := hide hq
    go_enter Tryd.func23, Tryd.ntmps23
    go_upto_region 3 with fail
    clear hw1
    apply wp_region_lit
    iterate 1 (refine wpList_plain rfl fun K hK => ?_; go_simp; refine hK _ _ ?_; clear hK K)
    refine wpList_plain rfl fun K hK => ?_
    go_simp
    refine (hG.out).mono ?_
    rintro e w2 ⟨rfl, rfl⟩
    go_simp
    refine hK _ _ ?_
    clear hK K
    iterate 1 (refine wpList_plain rfl fun K hK => ?_; go_simp; refine hK _ _ ?_; clear hK K)
    refine wpList_plain rfl fun K hK => ?_
    go_simp
    refine (hV.out).mono ?_
    rintro e w3 ⟨rfl, hb3⟩
    have hg3 := blk_below hb3 hzw hg.out
    have hB3 := hB.out.trans (hb3.mono hB.out.size)
    clear hb3 hG hV hg hB
    replace hg3 := hide hg3
    replace hB3 := hide hB3
    go_simp
    refine hK _ _ ?_
    clear hK K
    refine wpl_st rfl 24 (.tmp 2) (.tmp 11) rfl (w.heap.size) 0 rfl (#[.bool false, .int .u64 0, .int .u64 (q : Int)]) rfl hg3.out (by simp) (by kernel_rfl) (adr_one _ _ _) fun w9 hg9 g9 => ?_
    rw [putA_whole _ _ (by rfl)] at hg9
    have hb9 : Below (w.heap.size) w w9 := (hB3.out).trans (below_grown g9 (by have := (hB3.out).size; omega) (Nat.le_refl _))
    have hld : (loadVar 24 ⟨w.heap.size, 0, none⟩).run Tryd.prog w9 = .ok (.agg (#[.bool false, .int .u64 0, .int .u64 (q : Int)])) w9 := by
      simpa using run_loadVar_mid w9 (w.heap.size) 0 24 (#[.bool false, .int .u64 0, .int .u64 (q : Int)]).toList _ (blk_range hg9) Tryd.underlying24 rfl (by kernel_rfl)
    clear hg9 g9
    replace hld := hide hld
    replace hb9 := hide hb9
    iterate 1 (refine wpList_plain rfl fun K hK => ?_; go_simp; refine hK _ _ ?_; clear hK K)
    refine wpList_nil ?_
    go_simp
    go_wp2_with fail
    exact bodyPost_ret (v := .tuple #[.agg #[.bool false, .int .u64 0, .int .u64 (q : Int)], .int .i64 0]) (by simp [results, Tryd.results23, asAddr, hld.out, Result.andThen]) rfl ⟨rfl, hb9.out⟩
  rw [if_neg h4]
  by_cases h16 : n = 16
  · subst h16
    rw [if_pos rfl]
    obtain ⟨b, off, rfl, hb, -⟩ := hx1.ptr (by omega)
    have q1 := fun l : Later w1 => get_bel (some ⟨b, off, none⟩) 8 c (xs.take 8) l.w ((hx1.on l.hb).take (by omega)) (by omega)
    have hxd : IsB w1 w1.heap.size (some ⟨b, off + 8, none⟩) 8 (xs.drop 8) := by
      refine ⟨by rw [List.length_drop]; omega, fun h => ?_⟩
      obtain ⟨b', off', e, hb', hc⟩ := hx1.2 (by omega)
      cases e
      refine ⟨b, off + 8, rfl, hb', fun j hj => ?_⟩
      have hj' : j < 8 := by rw [List.length_drop, hl] at hj; omega
      rw [Nat.add_assoc, hc (8 + j) (by omega)]
      simp
    have q2 := fun l : Later w1 => get_bel (some ⟨b, off + 8, none⟩) 8 (c - 8) (xs.drop 8) l.w (hxd.on l.hb) (by omega)
    obtain ⟨g1, hg1⟩ : ∃ g, getN (xs.take 8) = g := ⟨_, rfl⟩
    obtain ⟨g2, hg2⟩ : ∃ g, getN (xs.drop 8) = g := ⟨_, rfl⟩
    rw [hg1] at q1 ⊢
    rw [hg2] at q2 ⊢
    have q3 := fun l : Later w1 => V6_any g1 g2 l.w
    have i1 : (8 : Int) ≤ (c : Int) := by omega
    have i2 : ¬ c = 8 := by omega
    have i3 : ¬ 8 = c := by omega
    clear hx hx1 hxd
    replace hB := hide hB
    replace hg := hide hg
    replace hg1 := hide hg1
    replace hg2 := hide hg2
    replace q1 := hide q1
    replace q2 := hide q2
    replace q3 := hide q3
    go_enter Tryd.func23, Tryd.ntmps23
    go_upto_region 5 with fail
    clear hw1
    refine wp_region_L (by as_aux_lemma => kernel_rfl) ?_
    refine wpE_seg 0 7 (fuel := 2) (by as_aux_lemma => kernel_rfl) (fun d _ _ _ _ h => by cases d <;> exact h) (by as_aux_lemma => kernel_rfl) (by as_aux_lemma => kernel_rfl) ?_
    simp only [List.drop_zero, List.take_succ_cons, List.take_zero]
    iterate 2 (refine wpQE_step (fun K hK => ?_); go_simp; refine hK _ ?_; clear hK K)
    (refine wpQE_step (fun K hK => ?_); go_simp; apply Exists.intro; refine ⟨fun l => ?_, hK _ ?_⟩; (go_at_call 51; refine (q1.out l).mono ?_; rintro e w' ⟨rfl, hb⟩; exact ⟨rfl, hb⟩); clear hK K)
    iterate 2 (refine wpQE_step (fun K hK => ?_); go_simp; refine hK _ ?_; clear hK K)
    (refine wpQE_step (fun K hK => ?_); go_simp; apply Exists.intro; refine ⟨fun l => ?_, hK _ ?_⟩; (go_at_call 51; refine (q2.out l).mono ?_; rintro e w' ⟨rfl, hb⟩; exact ⟨rfl, hb⟩); clear hK K)
    (refine wpQE_step (fun K hK => ?_); go_simp; apply Exists.intro; refine ⟨fun l => ?_, hK _ ?_⟩; (go_at_call 20; refine (q3.out l).mono ?_; rintro e w' ⟨rfl, hb⟩; exact ⟨rfl, hb⟩); clear hK K)
    refine wpQE_nil ?_
    refine wpE_end (by as_aux_lemma => kernel_rfl) (fun l2 => ?_)
    have hgl := blk_below l2.hb hzw hg.out
    have hBl := hB.out.trans (l2.hb.mono hB.out.size)
    replace hgl := hide hgl
    replace hBl := hide hBl
    refine wpT_step 7 rfl (by as_aux_lemma => kernel_rfl) (fun K hK => ?_)
    rw [if_pos (by rfl)]
    refine wp_st 24 (.tmp 2) (.tmp 20) rfl w.heap.size 0 rfl #[.bool true, .int .u64 (g1 : Int), .int .u64 (g2 : Int)] rfl hgl.out (by simp) (by kernel_rfl) (adr_one _ _ _) fun w9 hg9 g9 => ?_
    rw [putA_whole _ _ (by rfl)] at hg9
    have hb9 : Below w.heap.size w w9 := hBl.out.trans (below_grown g9 (by have := hBl.out.size; omega) (Nat.le_refl _))
    have hld : (loadVar 24 ⟨w.heap.size, 0, none⟩).run Tryd.prog w9 = .ok (.agg #[.bool true, .int .u64 (g1 : Int), .int .u64 (g2 : Int)]) w9 := by
      simpa using run_loadVar_mid w9 w.heap.size 0 24 [.bool true, .int .u64 (g1 : Int), .int .u64 (g2 : Int)] _ (blk_range hg9) Tryd.underlying24 rfl (by kernel_rfl)
    clear hg9 g9 hgl hBl
    replace hld := hide hld
    replace hb9 := hide hb9
    refine hK _ _ ?_
    clear hK K
    refine wpT_step 8 rfl (by as_aux_lemma => kernel_rfl) (fun K hK => ?_)
    go_simp
    refine hK _ _ ?_
    clear hK K
    refine wpT_done (by as_aux_lemma => kernel_rfl) ?_ 0
    go_wp2_with fail
    exact bodyPost_ret (v := .tuple #[.agg #[.bool true, .int .u64 (g1 : Int), .int .u64 (g2 : Int)], .int .i64 0]) (by simp [results, Tryd.results23, asAddr, hld.out, Result.andThen]) rfl ⟨rfl, hb9.out⟩
  · rw [if_neg h16]
    have t1 : ((n : Int) == 4) = false := by rw [beq_eq_false_iff_ne]; omega
    have t2 : ((n : Int) == 16) = false := by rw [beq_eq_false_iff_ne]; omega
    clear hx hx1
    replace hB := hide hB
    replace hg := hide hg
    replace h4 := hide h4
    replace h16 := hide h16
    go_enter Tryd.func23, Tryd.ntmps23
    go_upto_region 6 with fail
    clear hw1
    apply wp_region_lit
    iterate 1 (refine wpList_plain rfl fun K hK => ?_; go_simp; refine hK _ _ ?_; clear hK K)
    refine wpl_st rfl 24 (.tmp 2) (.tmp 21) rfl (w.heap.size) 0 rfl (#[.bool false, .int .u64 0, .int .u64 0]) rfl hg.out (by simp) (by kernel_rfl) (adr_one _ _ _) fun w9 hg9 g9 => ?_
    rw [putA_whole _ _ (by rfl)] at hg9
    have hb9 : Below (w.heap.size) w w9 := (hB.out).trans (below_grown g9 (by have := (hB.out).size; omega) (Nat.le_refl _))
    have hld : (loadVar 24 ⟨w.heap.size, 0, none⟩).run Tryd.prog w9 = .ok (.agg (#[.bool false, .int .u64 0, .int .u64 0])) w9 := by
      simpa using run_loadVar_mid w9 (w.heap.size) 0 24 (#[.bool false, .int .u64 0, .int .u64 0]).toList _ (blk_range hg9) Tryd.underlying24 rfl (by kernel_rfl)
    clear hg9 g9
    replace hld := hide hld
    replace hb9 := hide hb9
    iterate 1 (refine wpList_plain rfl fun K hK => ?_; go_simp; refine hK _ _ ?_; clear hK K)
    refine wpList_nil ?_
    go_simp
    go_wp2_with fail
    exact bodyPost_ret (v := .tuple #[.agg #[.bool false, .int .u64 0, .int .u64 0], .int .i64 12]) (by simp [results, Tryd.results23, asAddr, hld.out, Result.andThen]) rfl ⟨rfl, hb9.out⟩
theorem u64_and1 (n : Nat) (hn : n < 18446744073709551616) (s : Nat) : bits .and .u64 ((n : Int) / 2 ^ s) 1 = ((n / 2 ^ s % 2 : Nat) : Int) := by
  have e : (n : Int) / 2 ^ s = ((n / 2 ^ s : Nat) : Int) := by push_cast; rfl
  have e2 : n / 2 ^ s ≤ n := Nat.div_le_self _ _
  rw [e]
  obtain ⟨q, hq⟩ : ∃ q, n / 2 ^ s = q := ⟨_, rfl⟩
  rw [hq] at e2 ⊢
  exact bits_mask .u64 64 (by decide) wrapsu64 1 (by decide) _ (by omega) (by omega)
def bitI (a : Adr) (i : Int) : Int := if 0 ≤ i then (a.bit i.toNat : Int) else 0
set_option maxRecDepth 20000 in
set_option maxHeartbeats 8000000 in
theorem Bit_any (a : Adr) (ho : a.ok) (i : Int) (h1 : -9223372036854775808 ≤ i) (h2 : i ≤ 9223372036854775807) (w : World) :
    Calls Tryd.prog 24 #[.agg #[.bool a.v6, .int .u64 (a.hi : Int), .int .u64 (a.lo : Int)], .int .i64 i] w fun e w' => e = .returned (.int .i64 (bitI a i)) ∧ Below w.heap.size w w' := by
  obtain ⟨v, hi, lo⟩ := a
  obtain ⟨hhi, hlo⟩ := ho
  dsimp only at hhi hlo ⊢
  obtain ⟨w1, hw1⟩ : ∃ w1, w.alloc (.cells #[.bool v, .int .u64 (hi : Int), .int .u64 (lo : Int)] 24) = w1 := ⟨_, rfl⟩
  have hB : Below w.heap.size w w1 := hw1 ▸ (Below.refl _ _).alloc (Nat.le_refl _) _
  have hg : w1.heap[w.heap.size]? = some (.cells #[.bool v, .int .u64 (hi : Int), .int .u64 (lo : Int)] 24 (0, 0)) := hw1 ▸ blk_new _ _ _
  have hzw : w.heap.size < w1.heap.size := by rw [← hw1]; simp
  by_cases hn : i < 0
  · have t1 : decide (i < 0) = true := by rw [decide_eq_true_eq]; omega
    have hR : bitI ⟨v, hi, lo⟩ i = 0 := by unfold bitI; rw [if_neg (by omega)]
    rw [hR]
    clear hR
    replace hg := hide hg
    replace hB := hide hB
    replace hn := hide hn
    go_enter Tryd.func24, Tryd.ntmps24
    go_wp2_with fail
    go_ret
    exact ⟨rfl, hB.out⟩
  have t1 : decide (i < 0) = false := by rw [decide_eq_false_iff_not]; omega
  obtain ⟨k, rfl⟩ : ∃ k : Nat, i = (k : Int) := ⟨i.toNat, by omega⟩
  have hbits := Bits_any v (hi : Int) (lo : Int) w1
  have hcg := blk_cell hg
  have fin : ∀ W : Int, (if v = true then (128 : Int) else 32) = W → (∀ w2 : World, Below w1.heap.size w1 w2 → True) := fun _ _ _ _ => trivial
  clear fin
  cases v
  · have hbits' : Calls Tryd.prog 22 #[.agg #[.bool false, .int .u64 (hi : Int), .int .u64 (lo : Int)]] w1 fun e w' => e = .returned (.int .i64 32) ∧ Below w1.heap.size w1 w' := hbits
    clear hbits
    by_cases hk : k < 32
    · have t2 : decide ((32 : Int) ≤ (k : Int)) = false := by rw [decide_eq_false_iff_not]; omega
      have i1 : (0 : Int) ≤ (k : Int) := by omega
      obtain ⟨s, hs⟩ : ∃ s, 31 - k = s := ⟨_, rfl⟩
      have ws : IntKind.i64.wrap (31 - (k : Int)) = (s : Int) := by rw [wraps62 _ (by omega) (by omega)]; omega
      have i2 : (0 : Int) ≤ (s : Int) := by omega
      have min64 : min s 64 = s := by omega
      have ha := u64_and1 lo hlo s
      obtain ⟨y, hy⟩ : ∃ y, lo / 2 ^ s % 2 = y := ⟨_, rfl⟩
      rw [hy] at ha
      have wy : IntKind.i64.wrap (y : Int) = (y : Int) := wraps62 _ (by omega) (by omega)
      have hR : bitI ⟨false, hi, lo⟩ (k : Int) = (y : Int) := by
        unfold bitI Adr.bit Adr.w
        simp only [Int.toNat_natCast, i1, if_true, Bool.false_eq_true, if_false, show k < 32 from hk]
        rw [hs, hy]
      rw [hR]
      clear hR
      replace hs := hide hs
      replace hy := hide hy
      replace hg := hide hg
      replace hB := hide hB
      replace hk := hide hk
      replace hbits' := hide hbits'
      go_enter Tryd.func24, Tryd.ntmps24
      go_wp2_with fail
      clear hw1
      refine hbits'.out.mono ?_
      rintro e w2 ⟨rfl, hb2⟩
      have hg2 := blk_below hb2 hzw hg.out
      have hB2 := hB.out.trans (hb2.mono hB.out.size)
      clear hcg hg hB hb2 hbits'
      have hcg := blk_cell hg2
      replace hg2 := hide hg2
      replace hB2 := hide hB2
      go_wp2_with fail
      go_ret
      exact ⟨rfl, hB2.out⟩
    · have t2 : decide ((32 : Int) ≤ (k : Int)) = true := by rw [decide_eq_true_eq]; omega
      have hR : bitI ⟨false, hi, lo⟩ (k : Int) = 0 := by
        unfold bitI Adr.bit Adr.w
        rw [if_pos (by omega), Int.toNat_natCast, if_neg (by simpa using hk)]
        rfl
      rw [hR]
      clear hR
      replace hk := hide hk
      replace hbits' := hide hbits'
      replace hg := hide hg
      replace hB := hide hB
      go_enter Tryd.func24, Tryd.ntmps24
      go_wp2_with fail
      clear hw1
      refine hbits'.out.mono ?_
      rintro e w2 ⟨rfl, hb2⟩
      have hB2 := hB.out.trans (hb2.mono hB.out.size)
      clear hcg hg hB hb2 hbits'
      replace hB2 := hide hB2
      go_wp2_with fail
      go_ret
      exact ⟨rfl, hB2.out⟩
  · have hbits' : Calls Tryd.prog 22 #[.agg #[.bool true, .int .u64 (hi : Int), .int .u64 (lo : Int)]] w1 fun e w' => e = .returned (.int .i64 128) ∧ Below w1.heap.size w1 w' := hbits
    clear hbits
    by_cases hk : k < 128
    · have t2 : decide ((128 : Int) ≤ (k : Int)) = false := by rw [decide_eq_false_iff_not]; omega
      by_cases hk2 : k < 64
      · have t3 : decide ((k : Int) < 64) = true := by rw [decide_eq_true_eq]; omega
        have i1 : (0 : Int) ≤ (k : Int) := by omega
        obtain ⟨s, hs⟩ : ∃ s, 63 - k = s := ⟨_, rfl⟩
        have ws : IntKind.i64.wrap (63 - (k : Int)) = (s : Int) := by rw [wraps62 _ (by omega) (by omega)]; omega
        have i2 : (0 : Int) ≤ (s : Int) := by omega
        have min64 : min s 64 = s := by omega
        have ha := u64_and1 hi hhi s
        obtain ⟨y, hy⟩ : ∃ y, hi / 2 ^ s % 2 = y := ⟨_, rfl⟩
        rw [hy] at ha
        have wy : IntKind.i64.wrap (y : Int) = (y : Int) := wraps62 _ (by omega) (by omega)
        have hR : bitI ⟨true, hi, lo⟩ (k : Int) = (y : Int) := by
          unfold bitI Adr.bit Adr.w
          simp only [Int.toNat_natCast, i1, if_true, Bool.false_eq_true, if_false, show k < 128 from hk, hk2]
          rw [hs, hy]
        rw [hR]
        clear hR
        replace hs := hide hs
        replace hy := hide hy
        replace hg := hide hg
        replace hB := hide hB
        replace hk := hide hk
        replace hk2 := hide hk2
        replace hbits' := hide hbits'
        go_enter Tryd.func24, Tryd.ntmps24
        go_wp2_with fail
        clear hw1
        refine hbits'.out.mono ?_
        rintro e w2 ⟨rfl, hb2⟩
        have hg2 := blk_below hb2 hzw hg.out
        have hB2 := hB.out.trans (hb2.mono hB.out.size)
        clear hcg hg hB hb2 hbits'
        have hcg := blk_cell hg2
        replace hg2 := hide hg2
        replace hB2 := hide hB2
        go_wp2_with fail
        go_ret
        exact ⟨rfl, hB2.out⟩
      · have t3 : decide ((k : Int) < 64) = false := by rw [decide_eq_false_iff_not]; omega
        have i1 : (0 : Int) ≤ (k : Int) := by omega
        obtain ⟨s, hs⟩ : ∃ s, 127 - k = s := ⟨_, rfl⟩
        have ws : IntKind.i64.wrap (127 - (k : Int)) = (s : Int) := by rw [wraps62 _ (by omega) (by omega)]; omega
        have i2 : (0 : Int) ≤ (s : Int) := by omega
        have min64 : min s 64 = s := by omega
        have ha := u64_and1 lo hlo s
        obtain ⟨y, hy⟩ : ∃ y, lo / 2 ^ s % 2 = y := ⟨_, rfl⟩
        rw [hy] at ha
        have wy : IntKind.i64.wrap (y : Int) = (y : Int) := wraps62 _ (by omega) (by omega)
        have hR : bitI ⟨true, hi, lo⟩ (k : Int) = (y : Int) := by
          unfold bitI Adr.bit Adr.w
          simp only [Int.toNat_natCast, i1, if_true, Bool.false_eq_true, if_false, show k < 128 from hk, hk2]
          rw [hs, hy]
        rw [hR]
        clear hR
        replace hs := hide hs
        replace hy := hide hy
        replace hg := hide hg
        replace hB := hide hB
        replace hk := hide hk
        replace hk2 := hide hk2
        replace hbits' := hide hbits'
        go_enter Tryd.func24, Tryd.ntmps24
        go_wp2_with fail
        clear hw1
        refine hbits'.out.mono ?_
        rintro e w2 ⟨rfl, hb2⟩
        have hg2 := blk_below hb2 hzw hg.out
        have hB2 := hB.out.trans (hb2.mono hB.out.size)
        clear hcg hg hB hb2 hbits'
        have hcg := blk_cell hg2
        replace hg2 := hide hg2
        replace hB2 := hide hB2
        go_wp2_with fail
        go_ret
        exact ⟨rfl, hB2.out⟩
    · have t2 : decide ((128 : Int) ≤ (k : Int)) = true := by rw [decide_eq_true_eq]; omega
      have hR : bitI ⟨true, hi, lo⟩ (k : Int) = 0 := by
        unfold bitI Adr.bit Adr.w
        rw [if_pos (by omega), Int.toNat_natCast, if_neg (by simpa using hk)]
        rfl
      rw [hR]
      clear hR
      replace hk := hide hk
      replace hbits' := hide hbits'
      replace hg := hide hg
      replace hB := hide hB
      go_enter Tryd.func24, Tryd.ntmps24
      go_wp2_with fail
      clear hw1
      refine hbits'.out.mono ?_
      rintro e w2 ⟨rfl, hb2⟩
      have hB2 := hB.out.trans (hb2.mono hB.out.size)
      clear hcg hg hB hb2 hbits'
      replace hB2 := hide hB2
      go_wp2_with fail
      go_ret
      exact ⟨rfl, hB2.out⟩
end Addr05
end Go.Proofs.YtccmbnaakdffaaaDoor
/- addr: plain: an address's bytes, and what they are. No condition. -/
namespace Go.Proofs.YtccmbnaakdffaaaDoor
open Go.RowKit Go.ChangeShapes Go.WideShapes Go.ChangeAt Go.Deep
namespace Addr05
theorem getN_beN (xs : List UInt8) : ∀ k, k ≤ xs.length → k ≤ 8 → getN (xs.take k) = beN xs 0 k
  | 0, _, _ => rfl
  | k + 1, h, h8 => by
    rw [getN_snoc xs k (by omega), getN_beN xs k (by omega) (by omega), beN, Nat.zero_add]
    refine Nat.mod_eq_of_lt ?_
    have h1 := beN_lt xs 0 (k + 1)
    rw [beN, Nat.zero_add] at h1
    exact Nat.lt_of_lt_of_le h1 (Nat.le_trans (Nat.pow_le_pow_right (by omega) h8) (by decide))
theorem getN_all (xs : List UInt8) (h : xs.length ≤ 8) : getN xs = beN xs 0 xs.length := by
  have := getN_beN xs xs.length (Nat.le_refl _) h
  rwa [List.take_length] at this
theorem getN_beB (N k : Nat) (hk : k ≤ 8) (hN : N < 256 ^ k) : getN (beB N k) = N := by
  rw [getN_all _ (by rw [beB_length]; exact hk), beB_length]
  have := beN_put N k [] [] 0 rfl hN
  simpa using this
theorem beB_getN (xs : List UInt8) (k : Nat) (hk : xs.length = k) (h8 : k ≤ 8) : beB (getN xs) k = xs := by
  subst hk
  rw [getN_all xs h8]
  have := beB_beNM xs 0 xs.length (by omega)
  rw [this, List.drop_zero, List.take_length]
theorem getN_lt4 (xs : List UInt8) (h : xs.length = 4) : getN xs < 4294967296 := by
  rw [getN_all xs (by omega), h]
  exact beN_lt xs 0 4
theorem of_bytes (a : Adr) (ho : a.ok) : ∃ y : Adr, ofR (addrB a.v6 a.hi a.lo) = some y ∧ (a.right → y = a) := by
  obtain ⟨v, hi, lo⟩ := a
  obtain ⟨h1, h2⟩ := ho
  dsimp only at h1 h2 ⊢
  cases v
  · unfold ofR addrB
    simp only [Bool.false_eq_true, if_false, beB_length, if_true]
    refine ⟨_, rfl, fun hr => ?_⟩
    rcases hr with h | ⟨h3, h4⟩
    · cases h
    · dsimp only at h3 h4
      rw [getN_beB lo 4 (by omega) h4, h3, Nat.mod_eq_of_lt h4]
  · unfold ofR addrB
    simp only [if_true, List.length_append, beB_length]
    rw [if_neg (by omega)]
    refine ⟨_, rfl, fun _ => ?_⟩
    have e1 : (beB hi 8 ++ beB lo 8).take 8 = beB hi 8 := by rw [List.take_append_of_le_length (by rw [beB_length]; omega), List.take_of_length_le (by rw [beB_length]; omega)]
    have e2 : (beB hi 8 ++ beB lo 8).drop 8 = beB lo 8 := by rw [List.drop_append_of_le_length (by rw [beB_length]; omega), List.drop_of_length_le (by rw [beB_length]; omega), List.nil_append]
    rw [e1, e2, getN_beB hi 8 (by omega) h1, getN_beB lo 8 (by omega) h2]
theorem of_back (xs : List UInt8) : (ofR xs = none ∧ xs.length ≠ 4 ∧ xs.length ≠ 16) ∨ (∃ z, ofR xs = some z ∧ z.v6 = decide (xs.length = 16) ∧ addrB z.v6 z.hi z.lo = xs ∧ z.ok ∧ (xs.length = 4 ∨ xs.length = 16)) := by
  unfold ofR
  by_cases h4 : xs.length = 4
  · rw [if_pos h4]
    have hl := getN_lt4 xs h4
    refine .inr ⟨_, rfl, by rw [h4]; rfl, ?_, ⟨by dsimp only; omega, by dsimp only; omega⟩, .inl h4⟩
    dsimp only
    rw [Nat.mod_eq_of_lt hl]
    exact beB_getN xs 4 h4 (by omega)
  · rw [if_neg h4]
    by_cases h16 : xs.length = 16
    · rw [if_pos h16]
      refine .inr ⟨_, rfl, by rw [h16]; rfl, ?_, ⟨getN_lt _, getN_lt _⟩, .inr h16⟩
      show beB (getN (xs.take 8)) 8 ++ beB (getN (xs.drop 8)) 8 = xs
      rw [beB_getN (xs.take 8) 8 (by rw [List.length_take]; omega) (by omega), beB_getN (xs.drop 8) 8 (by rw [List.length_drop]; omega) (by omega), List.take_append_drop]
    · rw [if_neg h16]
      exact .inl ⟨rfl, h4, h16⟩
def szA (v6 : Bool) : Nat := if v6 then 16 else 4
theorem addrB_len (v6 : Bool) (hi lo : Nat) : (addrB v6 hi lo).length = szA v6 := by
  unfold addrB szA
  cases v6 <;> simp [beB_length]
theorem ofNat_toNat (n : Nat) : (UInt8.ofNat n).toNat = n % 256 := by simp
theorem pow256 (m : Nat) : (2 : Nat) ^ (8 * m) = 256 ^ m := by rw [Nat.pow_mul]
theorem getD_left {l r : List UInt8} {k : Nat} (h : k < l.length) : (l ++ r).getD k 0 = l.getD k 0 := by
  rw [List.getD_eq_getElem?_getD, List.getElem?_append_left h, ← List.getD_eq_getElem?_getD]
theorem getD_right {l r : List UInt8} {k : Nat} (h : l.length ≤ k) : (l ++ r).getD k 0 = r.getD (k - l.length) 0 := by
  rw [List.getD_eq_getElem?_getD, List.getElem?_append_right h, ← List.getD_eq_getElem?_getD]
theorem addrB_get (v6 : Bool) (hi lo k : Nat) (h : k < szA v6) : ((addrB v6 hi lo).getD k 0).toNat = (if 8 < szA v6 - k then hi else lo) / 2 ^ (8 * ((szA v6 - 1 - k) % 8)) % 256 := by
  unfold addrB
  cases v6
  · have h' : k < 4 := h
    rw [show szA false = 4 from rfl, if_neg (by simp), if_neg (by omega), beB_getD lo 4 k h', ofNat_toNat, show (4 - 1 - k) % 8 = 4 - 1 - k by omega, pow256]
  · have h' : k < 16 := h
    rw [show szA true = 16 from rfl, if_pos rfl]
    by_cases h8 : k < 8
    · rw [if_pos (by omega), getD_left (by rw [beB_length]; exact h8), beB_getD hi 8 k h8, ofNat_toNat, show (16 - 1 - k) % 8 = 8 - 1 - k by omega, pow256]
    · rw [if_neg (by omega), getD_right (by rw [beB_length]; omega), beB_length, beB_getD lo 8 (k - 8) (by omega), ofNat_toNat, show (16 - 1 - k) % 8 = 8 - 1 - (k - 8) by omega, pow256]
theorem byte_bit (x s r : Nat) (hr : r < 8) : x / 2 ^ s % 256 / 2 ^ r % 2 = x / 2 ^ (s + r) % 2 := by
  rw [mod2_testBit, mod2_testBit, show (256 : Nat) = 2 ^ 8 from rfl, Nat.testBit_mod_two_pow, Nat.testBit_div_two_pow]
  simp [hr, Nat.add_comm]
theorem addrB_bit (a : Adr) (i : Nat) (h : i < 8 * szA a.v6) : ((addrB a.v6 a.hi a.lo).getD (i / 8) 0).toNat / 2 ^ (7 - i % 8) % 2 = a.bit i := by
  have hb : i / 8 < szA a.v6 := by omega
  rw [addrB_get a.v6 a.hi a.lo (i / 8) hb, byte_bit _ _ _ (by omega)]
  obtain ⟨v, hi, lo⟩ := a
  unfold Adr.bit Adr.w
  dsimp only at h hb ⊢
  cases v
  · have h' : i < 32 := h
    rw [show szA false = 4 from rfl, if_neg (by omega), if_pos (by simpa using h'), if_neg (by simp), show 8 * ((4 - 1 - i / 8) % 8) + (7 - i % 8) = 31 - i by omega]
  · have h' : i < 128 := h
    simp only [if_true, show szA true = 16 from rfl, h']
    by_cases h8 : i < 64
    · rw [if_pos (show 8 < 16 - i / 8 by omega), if_pos h8, show 8 * ((16 - 1 - i / 8) % 8) + (7 - i % 8) = 63 - i by omega]
    · rw [if_neg (show ¬ 8 < 16 - i / 8 by omega), if_neg h8, show 8 * ((16 - 1 - i / 8) % 8) + (7 - i % 8) = 127 - i by omega]
theorem bit_out (a : Adr) (i : Nat) (h : ¬ i < 8 * szA a.v6) : a.bit i = 0 := by
  unfold Adr.bit
  rw [if_neg]
  unfold Adr.w
  unfold szA at h
  split <;> simp_all
end Addr05
end Go.Proofs.YtccmbnaakdffaaaDoor
