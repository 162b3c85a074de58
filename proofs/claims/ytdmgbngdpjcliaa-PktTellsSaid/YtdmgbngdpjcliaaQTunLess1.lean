/- Single steps of regions: an operation of a known value; one that its guard leaves out. No condition. -/
import Derived.Test.YtdmgbngdpjcliaaQPktBig2
import Derived.Test.YtdmgbngdpjcliaaQPktBig1
import Derived.Test.YtdmgbngdpjcliaaQPktBig4
import Derived.Test.YtdmgbngdpjcliaaQPktBig14
import Derived.Test.YtdmgbngdpjcliaaQPktMakes2
import Derived.Test.YtdmgbngdpjcliaaQPktParses1
namespace Go.Proofs.Ytdmgbngdpjcliaa
open Go.RowKit
section
variable {P : Program} {ops : Array Oper} {Q : Exit → Act → World → Prop} {a : Act} {w : World} {rest : List Oper} {op : Oper}
theorem wpl_val (v : Value) (hw : Region.wanted op (yielded ops a.tmps) = true) (hv : (execOp a.eval op).run P w = .ok (.value v) w) (h : wpList P ops Q rest (a.put op.dst v) w) : wpList P ops Q (op :: rest) a w := wpList_step fun K hK => by
  rw [if_pos hw]
  unfold Oper.wp
  rw [hv]
  exact hK _ _ h
theorem wpl_skip (hw : Region.wanted op (yielded ops a.tmps) = false) (h : wpList P ops Q rest (a.put op.dst undef) w) : wpList P ops Q (op :: rest) a w := wpList_step fun K hK => by
  rw [if_neg (by rw [hw]; exact Bool.false_ne_true)]
  exact hK _ _ h
theorem wpQE_skip {w0 : World} {Q : Act → Prop} (hw : Region.wanted op (yielded ops a.tmps) = false) (h : wpQE P ops w0 Q rest (a.put op.dst undef)) : wpQE P ops w0 Q (op :: rest) a := wpQE_step fun K hK => by
  rw [if_neg (by rw [hw]; exact Bool.false_ne_true)]
  exact hK _ h
/-- Are all these left out by their guards, one behind the other? -/
def skipB (ops : Array Oper) : List Oper → Act → Bool
  | [], _ => true
  | o :: l, a => !(Region.wanted o (yielded ops a.tmps)) && skipB ops l (a.put o.dst undef)
def putU : List Oper → Act → Act
  | [], a => a
  | o :: l, a => putU l (a.put o.dst undef)
theorem wpQE_skips {w0 : World} {Q : Act → Prop} : ∀ (l rest : List Oper) (a : Act), skipB ops l a = true → wpQE P ops w0 Q rest (putU l a) → wpQE P ops w0 Q (l ++ rest) a
  | [], _, _, _, h => h
  | o :: l, rest, a, hs, h => by
    unfold skipB at hs
    rw [Bool.and_eq_true, Bool.not_eq_true'] at hs
    exact wpQE_skip hs.1 (wpQE_skips l rest _ hs.2 h)
/-- A step of a known value, and then as many as are left out by their guards (one by one they cost a minute each: the goal would be a step that is not wanted). -/
theorem wpQE_val_skip {w0 : World} {Q : Act → Prop} (v : Value) (k : Nat) (hw : Region.wanted op (yielded ops a.tmps) = true) (hv : ∀ l : Later w0, (execOp a.eval op).run P l.w = .ok (.value v) l.w)
    (hs : skipB ops (rest.take k) (a.put op.dst v) = true) (h : wpQE P ops w0 Q (rest.drop k) (putU (rest.take k) (a.put op.dst v))) : wpQE P ops w0 Q (op :: rest) a := wpQE_step fun K hK => by
  rw [if_pos hw]
  refine ⟨v, fun l => ?_, hK _ ?_⟩
  · rw [hv l]
    exact ⟨rfl, lt_refl _⟩
  · have := wpQE_skips (P := P) (w0 := w0) (Q := Q) (rest.take k) (rest.drop k) (a.put op.dst v) hs h
    rwa [List.take_append_drop] at this
end
end Go.Proofs.Ytdmgbngdpjcliaa
/- A check behind a change of a word: plain numbers, and sum.Turn by contract. Conditions: numbers of 16 bits. -/
namespace Go.Proofs.Ytdmgbngdpjcliaa
open Go.RowKit Go.ChangeShapes Go.WideShapes Go.ChangeAt Go.Deep
namespace Sum
/-- A check behind a change of a word. -/
def turnN (c f t : Nat) : Nat := 65535 - ones ((65535 - c) + (65535 - f) + t)
theorem turnN_le (c f t : Nat) : turnN c f t ≤ 65535 := by unfold turnN; omega
theorem ones_mod (n : Nat) : ones n % 65535 = n % 65535 := by unfold ones; split <;> omega
theorem turnN_mod (c f t : Nat) (hc : c ≤ 65535) (hf : f ≤ 65535) : (turnN c f t + t) % 65535 = (c + f) % 65535 := by
  have h1 := ones_mod ((65535 - c) + (65535 - f) + t)
  have h2 := ones_le ((65535 - c) + (65535 - f) + t)
  unfold turnN
  omega
theorem ones_full {a : Nat} : ones a = 65535 ↔ a % 65535 = 0 ∧ a ≠ 0 := by unfold ones; split <;> omega
theorem tot_be2 (v : Nat) (h : v < 65536) (l : List UInt8) : tot false (beB v 2 ++ l) = v + tot false l := by
  simp only [beB, List.nil_append, List.cons_append, tot, Bool.not_false, Bool.not_true]
  have e1 : (UInt8.ofNat v).toNat = v % 256 := UInt8.toNat_ofNat'
  have e2 : (UInt8.ofNat (v / 256)).toNat = v / 256 % 256 := UInt8.toNat_ofNat'
  simp [e1, e2]
  omega
theorem drop_two (xs : List UInt8) (p : Nat) (h : p + 2 ≤ xs.length) : xs.drop p = xs.getD p 0 :: xs.getD (p + 1) 0 :: xs.drop (p + 2) := by
  rw [List.drop_eq_getElem_cons (by omega), List.drop_eq_getElem_cons (by omega)]
  simp [List.getD, show p < xs.length by omega, show p + 1 < xs.length by omega]
theorem tot_setB2 (xs : List UInt8) (p v : Nat) (hp : p % 2 = 0) (hl : p + 2 ≤ xs.length) (hv : v < 65536) : tot false (setB xs p (beB v 2)) + beN xs p 2 = tot false xs + v := by
  have e1 : xs = xs.take p ++ xs.drop p := (List.take_append_drop p xs).symm
  have ht : (xs.take p).length = p := by rw [List.length_take]; omega
  have h1 : tot false xs = tot false (xs.take p) + tot false (xs.drop p) := by
    conv => lhs; rw [e1]
    rw [tot_append, ht, decide_eq_false (by omega)]
    rfl
  have h2 : tot false (setB xs p (beB v 2)) = tot false (xs.take p) + tot false (beB v 2 ++ xs.drop (p + 2)) := by
    unfold setB
    rw [tot_append, ht, decide_eq_false (by omega), beB_length]
    rfl
  rw [h1, h2, tot_be2 v hv, drop_two xs p hl]
  simp only [tot, Bool.not_false, Bool.not_true, beN, if_true, Bool.false_eq_true, if_false]
  simp only [Nat.add_zero]
  omega
theorem turn_any (c f t : Nat) (w : World) (hc : c ≤ 65535) (hf : f ≤ 65535) (ht : t ≤ 65535) :
    Calls Try.prog 84 #[.int .u16 (c : Int), .int .u16 (f : Int), .int .u16 (t : Int)] w fun e w' => e = .returned (.int .u16 (turnN c f t : Nat)) ∧ w = w' := by
  obtain ⟨c', hc'⟩ : ∃ c', 65535 - c = c' := ⟨_, rfl⟩
  obtain ⟨f', hf'⟩ : ∃ f', 65535 - f = f' := ⟨_, rfl⟩
  have q1 : bits .xor .u16 IntKind.u16.max (c : Int) = (c' : Int) := by rw [u16_flip c hc, hc']
  have q2 : bits .xor .u16 IntKind.u16.max (f : Int) = (f' : Int) := by rw [u16_flip f hf, hf']
  have b1 : c' ≤ 65535 := by omega
  have b2 : f' ≤ 65535 := by omega
  have hs : IntKind.u16.signed = false := rfl
  have hT : turnN c f t = 65535 - ones (c' + f' + t) := by unfold turnN; rw [hc', hf']
  have q4 := ones_le (c' + f' + t)
  have hfo := fun w : World => fold_any (c' + f' + t) w (by omega)
  have e1 : ((c' + f' + t : Nat) : Int) = (c' : Int) + f' + t := by omega
  rw [e1] at hfo
  clear e1
  replace hc' := hide hc'
  replace hf' := hide hf'
  replace hT := hide hT
  replace hfo := hide hfo
  go_enter Try.func84, Try.ntmps84
  go_wp2_with fail
  refine (hfo.out _).mono ?_
  rintro e w' ⟨rfl, rfl⟩
  have q3 := u16_flip _ q4
  go_wp2_with fail
  go_ret
  exact ⟨ret_int (by rw [hT.out]), rfl⟩
end Sum
end Go.Proofs.Ytdmgbngdpjcliaa
/- The builtin copy of bytes into a row of the call's own, in a region of one order. Conditions: the place lies within the row. -/
namespace Go.Proofs.Ytdmgbngdpjcliaa
open Go.RowKit Go.ChangeShapes Go.WideShapes Go.ChangeAt Go.Deep
theorem wpl_copy_b {w : World} {ops : Array Oper} {rest : List Oper} {o : Oper} {a : Act} {Q : Exit → Act → World → Prop} (hgd : o.guard = none) (d s : Operand)
    (ho : o.op = .call { callee := .builtin .copy, args := #[d, s], argTypes := #[22, 22] }) (base g n c p dl dc m sc B k : Nat) (A : Option Addr) (xs ys : List UInt8)
    (hd : a.eval d = .slice (some ⟨g, p, none⟩) dl dc) (hs : a.eval s = .slice A m sc) (hown : OwnB w base (.slice (some ⟨g, 0, none⟩) n c) xs) (hr : IsB w B A m ys) (hp : p + dl ≤ n) (h0 : 0 < n) (hk : min m dl = k)
    (h : ∀ w', OwnB w' base (.slice (some ⟨g, 0, none⟩) n c) (setB xs p (ys.take k)) → Below g w w' → wpList Try.prog ops Q rest (a.put o.dst (goInt k)) w') : wpList Try.prog ops Q (o :: rest) a w := by
  obtain ⟨g', cur, hg', hb, hh, hcl, htk, hn, hm, hl⟩ := hown.row h0
  cases hg'
  have hkl : (ys.take k).length = k := by rw [List.length_take, hr.1]; omega
  have hkl' : ((ys.take k).map u8v).length = k := by rw [List.length_map, hkl]
  refine wpList_copy_splice hgd d s _ _ ho 5 Try.underlying22 (by kernel_rfl) _ _ _ _ _ _ hd hs g p cur 5 hh ((ys.take k).map u8v) ?_ ?_ ?_ (u8v_one _) g w (Below.refl _ _) (Nat.le_refl _) ?_
  · rw [hkl', ← hk]
  · intro h1
    rw [hkl'] at h1
    obtain ⟨b2, off2, rfl, _, hcs2⟩ := hr.vals.2 (by omega)
    refine ⟨rfl, _, rfl, fun j v hj => ?_⟩
    obtain ⟨hj', rfl⟩ := List.getElem?_eq_some_iff.1 hj
    rw [hkl'] at hj'
    rw [show Addr.add ⟨b2, off2, none⟩ j = (⟨b2, off2 + j, none⟩ : Addr) by unfold Addr.add; split <;> simp_all]
    rw [hcs2 j (by rw [List.length_map, hr.1]; omega)]
    simp
  · rw [hkl', hcl]; omega
  intro w' hh' hb'
  rw [hkl']
  refine h w' (own_of_row hb hh'.out ?_ (splice_take cur xs (ys.take k) n p htk (by rw [hcl]; exact hn) hl (by rw [hkl]; omega)) hn hm (by rw [setB_length _ _ _ (by rw [hkl, hl]; omega), hl])) hb'
  rw [length_splice _ _ _ (by rw [hkl', hcl]; omega), hcl]
theorem setB_whole (xs ys : List UInt8) (h : xs.length = ys.length) : setB xs 0 ys = ys := by
  unfold setB
  rw [List.take_zero, List.nil_append, List.drop_of_length_le (by omega), List.append_nil]
end Go.Proofs.Ytdmgbngdpjcliaa
/- Plain: what makes bytes a packet of either version, and that bytes with a time to live one less are one again. No condition. -/
namespace Go.Proofs.Ytdmgbngdpjcliaa
open Go.RowKit Go.ChangeShapes Go.WideShapes Go.ChangeAt Go.Deep
theorem beN_congr (xs ys : List UInt8) (p : Nat) : ∀ k, (∀ i, p ≤ i → i < p + k → xs.getD i 0 = ys.getD i 0) → beN xs p k = beN ys p k
  | 0, _ => rfl
  | k + 1, h => by rw [beN, beN, beN_congr xs ys p k (fun i h1 h2 => h i h1 (by omega)), h (p + k) (by omega) (by omega)]
theorem getD_of_get {xs ys : List UInt8} {i : Nat} (h : xs[i]? = ys[i]?) : xs.getD i 0 = ys.getD i 0 := by simp [List.getD, h]
theorem setB_get_out (xs : List UInt8) (p : Nat) (ys : List UInt8) (h : p + ys.length ≤ xs.length) (i : Nat) (hi : i < p ∨ p + ys.length ≤ i) : (setB xs p ys)[i]? = xs[i]? := by
  unfold setB
  rcases hi with hi | hi
  · rw [List.getElem?_append_left (by rw [List.length_take]; omega), List.getElem?_take_of_lt hi]
  · rw [List.getElem?_append_right (by rw [List.length_take]; omega), List.getElem?_append_right (by rw [List.length_take]; omega), List.getElem?_drop]
    congr 1
    rw [List.length_take]
    omega
theorem setB_getD_out (xs : List UInt8) (p : Nat) (ys : List UInt8) (h : p + ys.length ≤ xs.length) (i : Nat) (hi : i < p ∨ p + ys.length ≤ i) : (setB xs p ys).getD i 0 = xs.getD i 0 := getD_of_get (setB_get_out xs p ys h i hi)
theorem setB_take (xs : List UInt8) (p : Nat) (ys : List UInt8) (s : Nat) (h : p + ys.length ≤ s) (hs : s ≤ xs.length) : (setB xs p ys).take s = setB (xs.take s) p ys := by
  unfold setB
  rw [List.take_append, List.take_append, List.take_take, List.length_take, List.take_take, List.drop_take, Nat.min_eq_right (by omega), Nat.min_eq_left (by omega), Nat.min_eq_left (by omega)]
  rw [List.take_of_length_le (by omega : ys.length ≤ s - p)]
  congr 3
  omega
theorem setB_drop (xs : List UInt8) (p : Nat) (ys : List UInt8) (s : Nat) (h : p + ys.length ≤ s) (hl : p + ys.length ≤ xs.length) : (setB xs p ys).drop s = xs.drop s := by
  apply List.ext_getElem?
  intro i
  rw [List.getElem?_drop, List.getElem?_drop]
  exact setB_get_out xs p ys hl _ (.inr (by omega))
theorem beB2 (v : Nat) : beB v 2 = [UInt8.ofNat (v / 256), UInt8.ofNat v] := by simp [beB]
theorem beN2 (xs : List UInt8) (p : Nat) : beN xs p 2 = 256 * (xs.getD p 0).toNat + (xs.getD (p + 1) 0).toNat := by
  simp only [beN, Nat.add_zero]
  omega
theorem setB_get_in (xs : List UInt8) (p : Nat) (ys : List UInt8) (h : p + ys.length ≤ xs.length) (i : Nat) (hi : i < ys.length) : (setB xs p ys)[p + i]? = ys[i]? := by
  unfold setB
  rw [List.getElem?_append_right (by rw [List.length_take]; omega), List.length_take, Nat.min_eq_left (by omega), Nat.add_sub_cancel_left, List.getElem?_append_left hi]
theorem beN_setB2 (xs : List UInt8) (p v : Nat) (h : p + 2 ≤ xs.length) (hv : v < 65536) : beN (setB xs p (beB v 2)) p 2 = v := by
  have h0 := setB_get_in xs p (beB v 2) (by rw [beB_length]; omega) 0 (by rw [beB_length]; omega)
  have h1 := setB_get_in xs p (beB v 2) (by rw [beB_length]; omega) 1 (by rw [beB_length]; omega)
  rw [beB2] at h0 h1 ⊢
  rw [Nat.add_zero] at h0
  rw [beN2]
  have e0 : (setB xs p [UInt8.ofNat (v / 256), UInt8.ofNat v]).getD p 0 = UInt8.ofNat (v / 256) := by simp [List.getD, h0]
  have e1 : (setB xs p [UInt8.ofNat (v / 256), UInt8.ofNat v]).getD (p + 1) 0 = UInt8.ofNat v := by simp [List.getD, h1]
  rw [e0, e1, UInt8.toNat_ofNat', UInt8.toNat_ofNat']
  omega
theorem set_setB (xs : List UInt8) (p : Nat) (h : p + 2 ≤ xs.length) (v : Nat) (hv : v < 65536) (h1 : v % 256 = (xs.getD (p + 1) 0).toNat) : xs.set p (UInt8.ofNat (v / 256)) = setB xs p (beB v 2) := by
  apply List.ext_getElem?
  intro i
  rw [beB2]
  by_cases hi : i < p ∨ p + 2 ≤ i
  · rw [setB_get_out _ _ _ (by simpa using h) i (by simpa using hi), List.getElem?_set_ne (by omega)]
  · by_cases h0 : i = p
    · subst h0
      have h2 := setB_get_in xs i [UInt8.ofNat (v / 256), UInt8.ofNat v] (by simpa using h) 0 (by simp)
      rw [Nat.add_zero] at h2
      rw [h2, List.getElem?_set_self (by omega)]
      rfl
    · obtain rfl : i = p + 1 := by omega
      rw [setB_get_in xs p [UInt8.ofNat (v / 256), UInt8.ofNat v] (by simpa using h) 1 (by simp), List.getElem?_set_ne (by omega)]
      have e : xs.getD (p + 1) 0 = UInt8.ofNat v := by
        apply UInt8.toNat_inj.1
        rw [UInt8.toNat_ofNat', ← h1]
      have hg : xs[p + 1]? = some (xs.getD (p + 1) 0) := by simp [List.getD, show p + 1 < xs.length by omega]
      rw [hg, e]
      rfl
namespace Tun
/-- Bytes that are a packet of version 4. -/
structure FourOk (n : Nat) (xs : List UInt8) : Prop where
  len : xs.length = n
  h1 : 20 ≤ n
  h2 : (xs.getD 0 0).toNat / 16 = 4
  h3 : 20 ≤ (xs.getD 0 0).toNat % 16 * 4
  h4 : (xs.getD 0 0).toNat % 16 * 4 ≤ n
  h5 : beN xs 6 2 / 32768 = 0
  h6 : (xs.getD 0 0).toNat % 16 * 4 ≤ beN xs 2 2
  h7 : beN xs 2 2 ≤ n
  h8 : Sum.ones (Sum.tot false (xs.take ((xs.getD 0 0).toNat % 16 * 4))) = 65535
theorem four_case (n : Nat) (xs : List UInt8) (hxl : xs.length = n) (hnm : n ≤ 1099511627776) : (∃ K, K ≠ 0 ∧ K ≤ 20 ∧ FourIs n xs K 0 0 false false 0 0 0 0 0 0 0 []) ∨ FourOk n xs := by
  by_cases h1 : n < 20
  · exact .inl ⟨2, by omega, by omega, four_bad 2 fun A c w hx hc => Four.parse_short A n c xs w hx hc hnm h1⟩
  by_cases h2 : (xs.getD 0 0).toNat / 16 = 4
  case neg => exact .inl ⟨10, by omega, by omega, four_bad 10 fun A c w hx hc => Four.parse_version A n c xs w hx hc hnm (by omega) h2⟩
  by_cases h3 : (xs.getD 0 0).toNat % 16 * 4 < 20
  · exact .inl ⟨11, by omega, by omega, four_bad 11 fun A c w hx hc => Four.parse_header1 A n c xs w hx hc hnm (by omega) h2 _ rfl h3⟩
  by_cases h4 : n < (xs.getD 0 0).toNat % 16 * 4
  · exact .inl ⟨11, by omega, by omega, four_bad 11 fun A c w hx hc => Four.parse_header2 A n c xs w hx hc hnm (by omega) h2 _ rfl (by omega) h4⟩
  by_cases h5 : beN xs 6 2 / 32768 = 0
  case neg => exact .inl ⟨11, by omega, by omega, four_bad 11 fun A c w hx hc => Four.parse_header3 A n c xs w hx hc hnm (by omega) h2 _ rfl (by omega) (by omega) h5⟩
  by_cases h6 : beN xs 2 2 < (xs.getD 0 0).toNat % 16 * 4
  · exact .inl ⟨12, by omega, by omega, four_bad 12 fun A c w hx hc => Four.parse_length1 A n c xs w hx hc hnm (by omega) h2 _ rfl (by omega) (by omega) h5 h6⟩
  by_cases h7 : n < beN xs 2 2
  · exact .inl ⟨12, by omega, by omega, four_bad 12 fun A c w hx hc => Four.parse_length2 A n c xs w hx hc hnm (by omega) h2 _ rfl (by omega) (by omega) h5 (by omega) h7⟩
  by_cases h8 : Sum.ones (Sum.tot false (xs.take ((xs.getD 0 0).toNat % 16 * 4))) = 65535
  case neg => exact .inl ⟨13, by omega, by omega, four_bad 13 fun A c w hx hc => Four.parse_sum A n c xs w hx hc hnm (by omega) h2 _ rfl (by omega) (by omega) h5 (by omega) (by omega) h8⟩
  exact .inr ⟨hxl, by omega, h2, by omega, by omega, h5, by omega, by omega, h8⟩
theorem FourOk.is {n : Nat} {xs : List UInt8} (h : FourOk n xs) (hnm : n ≤ 1099511627776) (s al : Nat) (hs : (xs.getD 0 0).toNat % 16 * 4 = s) (hal : beN xs 2 2 = al) :
    FourIs n xs 0 (xs.getD 1 0).toNat (beN xs 4 2) (decide (beN xs 6 2 / 16384 % 2 = 1)) (decide (beN xs 6 2 / 8192 % 2 = 1)) (beN xs 6 2 % 8192) (xs.getD 8 0).toNat (xs.getD 9 0).toNat (beN xs 12 4) (beN xs 16 4) (s - 20) (al - s) ((xs.take al).drop s) := by
  subst hs hal
  exact four_ok n xs hnm h.h1 h.h2 _ rfl h.h3 h.h4 h.h5 h.h6 h.h7 h.h8
theorem tot_pos {ys : List UInt8} {s : Nat} (hs : 1 ≤ s) (hl : 1 ≤ ys.length) (h : 0 < (ys.getD 0 0).toNat) : Sum.tot false (ys.take s) ≠ 0 := by
  match ys, hl with
  | c :: l, _ =>
    obtain ⟨k, rfl⟩ : ∃ k, s = k + 1 := ⟨s - 1, by omega⟩
    simp only [List.take_succ_cons, Sum.tot]
    have : 0 < c.toNat := h
    simp
    omega
theorem FourOk.of_same {n : Nat} {xs ys : List UInt8} (h : FourOk n xs) (s al : Nat) (hs : (xs.getD 0 0).toNat % 16 * 4 = s) (hal : beN xs 2 2 = al) (hl : ys.length = al) (h0 : ∀ i, i < 8 → ys.getD i 0 = xs.getD i 0)
    (ht : Sum.tot false (ys.take s) % 65535 = Sum.tot false (xs.take s) % 65535) : FourOk al ys := by
  have e0 := h0 0 (by omega)
  have e2 : beN ys 2 2 = beN xs 2 2 := beN_congr _ _ _ _ fun i _ hi => h0 i (by omega)
  have e6 : beN ys 6 2 = beN xs 6 2 := beN_congr _ _ _ _ fun i _ hi => h0 i (by omega)
  have g1 := h.h2
  have g3 := h.h3
  have g6 := h.h6
  have g8 := Sum.ones_full.1 h.h8
  rw [hs] at g3 g6 g8
  rw [hal] at g6
  refine ⟨hl, by omega, by rw [e0]; exact g1, by rw [e0, hs]; omega, by rw [e0, hs]; omega, by rw [e6]; exact h.h5, by rw [e0, hs, e2, hal]; omega, by rw [e2, hal]; omega, ?_⟩
  rw [e0, hs]
  exact Sum.ones_full.2 ⟨by rw [ht]; exact g8.1, tot_pos (by omega) (by omega) (by rw [e0]; omega)⟩
/-- A packet of version 4 with a time to live one less. -/
def lessB4 (xs : List UInt8) (al : Nat) : List UInt8 := setB (setB (xs.take al) 8 (beB (beN xs 8 2 - 256) 2)) 10 (beB (Sum.turnN (beN xs 10 2) (beN xs 8 2) (beN xs 8 2 - 256)) 2)
theorem lessB4_eq (xs : List UInt8) (T v : Nat) (hT : 20 ≤ T) (hl : T ≤ xs.length) (hv : (xs.getD 8 0).toNat = v) (h1 : 1 ≤ v) (m m' c c' : Nat) (hm : beN (xs.take T) 8 2 = m) (hm' : beN ((xs.take T).set 8 (UInt8.ofNat (v - 1))) 8 2 = m') (hc : beN ((xs.take T).set 8 (UInt8.ofNat (v - 1))) 10 2 = c) (hc' : Sum.turnN c m m' = c') :
    setB ((xs.take T).set 8 (UInt8.ofNat (v - 1))) 10 (beB c' 2) = lessB4 xs T := by
  have tl : (xs.take T).length = T := by rw [List.length_take]; omega
  have b8 := beN_lt xs 8 2
  have w8 := beN2 xs 8
  have l9 := (xs.getD 9 0).toNat_lt
  rw [show (8 + 1) = 9 from rfl] at w8
  have e1 : beN (xs.take T) 8 2 = beN xs 8 2 := Six.beN_take xs T 8 2 (by omega)
  have es : (xs.take T).set 8 (UInt8.ofNat (v - 1)) = setB (xs.take T) 8 (beB (beN xs 8 2 - 256) 2) := by
    rw [← set_setB (xs.take T) 8 (by omega) (beN xs 8 2 - 256) (by omega) (by rw [Six.getD_take xs T 9 (by omega)]; omega)]
    congr 2
    omega
  rw [es] at hm' hc ⊢
  rw [beN_setB2 _ _ _ (by omega) (by omega)] at hm'
  rw [beN_congr _ (xs.take T) 10 2 (fun i h1 h2 => setB_getD_out _ _ _ (by rw [beB_length]; omega) i (by rw [beB_length]; omega)), Six.beN_take xs T 10 2 (by omega)] at hc
  unfold lessB4
  rw [← hc', ← hm', ← hc, ← hm, e1]
theorem lessB4_ok {n : Nat} {xs : List UInt8} (h : FourOk n xs) (s al : Nat) (hs : (xs.getD 0 0).toNat % 16 * 4 = s) (hal : beN xs 2 2 = al) (h2 : 2 ≤ (xs.getD 8 0).toNat) :
    FourOk al (lessB4 xs al) ∧ (lessB4 xs al).length = al ∧ ((lessB4 xs al).getD 8 0).toNat = (xs.getD 8 0).toNat - 1 ∧ (∀ i, i < al → i ≠ 8 → i ≠ 10 → i ≠ 11 → (lessB4 xs al)[i]? = xs[i]?) ∧ ((lessB4 xs al).take al).drop s = (xs.take al).drop s := by
  have g3 := h.h3
  have g4 := h.h4
  have g6 := h.h6
  have g7 := h.h7
  have gl := h.len
  rw [hs] at g3 g4 g6
  rw [hal] at g6 g7
  have b8 := beN_lt xs 8 2
  have b10 := beN_lt xs 10 2
  have w8 := beN2 xs 8
  have l9 := (xs.getD 9 0).toNat_lt
  rw [show (8 + 1) = 9 from rfl] at w8
  have tl : (xs.take al).length = al := by rw [List.length_take]; omega
  obtain ⟨m, hm⟩ : ∃ m, beN xs 8 2 = m := ⟨_, rfl⟩
  obtain ⟨c, hc⟩ : ∃ c, beN xs 10 2 = c := ⟨_, rfl⟩
  obtain ⟨c', hc'⟩ : ∃ c', Sum.turnN c m (m - 256) = c' := ⟨_, rfl⟩
  have hcl : c' ≤ 65535 := hc' ▸ Sum.turnN_le _ _ _
  have hmod := Sum.turnN_mod c m (m - 256) (by omega) (by omega)
  rw [hc'] at hmod
  rw [hm] at w8 b8
  have hY : lessB4 xs al = setB (setB (xs.take al) 8 (beB (m - 256) 2)) 10 (beB c' 2) := by unfold lessB4; rw [hm, hc, hc']
  obtain ⟨z, hz⟩ : ∃ z, setB (xs.take al) 8 (beB (m - 256) 2) = z := ⟨_, rfl⟩
  have zl : z.length = al := by rw [← hz, setB_length _ _ _ (by rw [beB_length]; omega), tl]
  rw [hz] at hY
  have yl : (lessB4 xs al).length = al := by rw [hY, setB_length _ _ _ (by rw [beB_length]; omega), zl]
  have same : ∀ i, i < al → i ≠ 8 → i ≠ 9 → i ≠ 10 → i ≠ 11 → (lessB4 xs al)[i]? = xs[i]? := by
    intro i hi n8 n9 n10 n11
    rw [hY, setB_get_out _ _ _ (by rw [beB_length]; omega) i (by rw [beB_length]; omega), ← hz, setB_get_out _ _ _ (by rw [beB_length]; omega) i (by rw [beB_length]; omega), List.getElem?_take_of_lt hi]
  have z8 : z[8]? = some (UInt8.ofNat ((m - 256) / 256)) := by
    have := setB_get_in (xs.take al) 8 (beB (m - 256) 2) (by rw [beB_length]; omega) 0 (by rw [beB_length]; omega)
    rw [← hz]
    rw [Nat.add_zero] at this
    rw [this, beB2]
    rfl
  have z9 : z[9]? = some (UInt8.ofNat (m - 256)) := by
    have := setB_get_in (xs.take al) 8 (beB (m - 256) 2) (by rw [beB_length]; omega) 1 (by rw [beB_length]; omega)
    rw [← hz]
    rw [this, beB2]
    rfl
  have y9 : (lessB4 xs al)[9]? = xs[9]? := by
    rw [hY, setB_get_out _ _ _ (by rw [beB_length]; omega) 9 (by rw [beB_length]; omega), z9]
    have hg : xs[9]? = some (xs.getD 9 0) := by simp [List.getD, show 9 < xs.length by omega]
    have e9 : UInt8.ofNat (m - 256) = xs.getD 9 0 := UInt8.toNat_inj.1 (by rw [UInt8.toNat_ofNat']; omega)
    rw [hg, e9]
  refine ⟨h.of_same s al hs hal yl (fun i hi => getD_of_get (same i (by omega) (by omega) (by omega) (by omega) (by omega))) ?_, yl, ?_, ?_, ?_⟩
  · have t1 : (lessB4 xs al).take s = setB (setB (xs.take s) 8 (beB (m - 256) 2)) 10 (beB c' 2) := by
      rw [hY, setB_take _ _ _ _ (by rw [beB_length]; omega) (by omega), ← hz, setB_take _ _ _ _ (by rw [beB_length]; omega) (by omega), List.take_take, Nat.min_eq_left (by omega)]
    obtain ⟨u, hu⟩ : ∃ u, xs.take s = u := ⟨_, rfl⟩
    have ul : u.length = s := by rw [← hu, List.length_take]; omega
    rw [t1, hu]
    have q1 := Sum.tot_setB2 u 8 (m - 256) rfl (by omega) (by omega)
    have q2 := Sum.tot_setB2 (setB u 8 (beB (m - 256) 2)) 10 c' rfl (by rw [setB_length _ _ _ (by rw [beB_length]; omega)]; omega) (by omega)
    have e1 : beN u 8 2 = m := by rw [← hu, Six.beN_take xs s 8 2 (by omega), hm]
    have e2 : beN (setB u 8 (beB (m - 256) 2)) 10 2 = c := by
      rw [beN_congr _ u 10 2 (fun i h1 h2 => setB_getD_out _ _ _ (by rw [beB_length]; omega) i (by rw [beB_length]; omega)), ← hu, Six.beN_take xs s 10 2 (by omega), hc]
    rw [e1] at q1
    rw [e2] at q2
    omega
  · rw [hY]
    have : (setB z 10 (beB c' 2))[8]? = some (UInt8.ofNat ((m - 256) / 256)) := by rw [setB_get_out _ _ _ (by rw [beB_length]; omega) 8 (by rw [beB_length]; omega), z8]
    simp only [List.getD, this, Option.getD_some]
    rw [UInt8.toNat_ofNat']
    have := (xs.getD 8 0).toNat_lt
    simp only [List.getD] at *
    omega
  · intro i hi n8 n10 n11
    by_cases n9 : i = 9
    · rw [n9]; exact y9
    · exact same i hi n8 n9 n10 n11
  · rw [List.take_of_length_le (by omega), hY, setB_drop _ _ _ _ (by rw [beB_length]; omega) (by rw [beB_length]; omega), ← hz, setB_drop _ _ _ _ (by rw [beB_length]; omega) (by rw [beB_length]; omega)]
/-- Bytes that are a packet of version 6. -/
structure SixOk (n : Nat) (xs : List UInt8) (acc : List (Int × List UInt8)) (nx : Nat) (rest : List UInt8) : Prop where
  len : xs.length = n
  hk : Six.parseK n xs = 0
  hR : Six.parseR xs = some (acc, nx, rest)
theorem six_case (n : Nat) (xs : List UInt8) (hxl : xs.length = n) (hnm : n ≤ 1099511627776) : (∃ K, K ≠ 0 ∧ K ≤ 20 ∧ SixIs n xs K 0 0 0 false 0 0 false 0 0 [] 0 0 []) ∨ ∃ acc nx rest, SixOk n xs acc nx rest := by
  by_cases hk : Six.parseK n xs = 0
  · right
    rcases hR : Six.parseR xs with _ | ⟨acc, nx, rest⟩
    · exfalso
      unfold Six.parseK at hk
      unfold Six.parseR at hR
      rw [hR] at hk
      simp only [Option.isNone_none, if_true] at hk
      split at hk
      · omega
      · split at hk
        · omega
        · split at hk <;> omega
    · exact ⟨acc, nx, rest, hxl, hk, hR⟩
  · left
    refine ⟨Six.parseK n xs, hk, ?_, fun A c W hx hc hcm => (Six.parse_any A n c xs W hx hc hcm hnm _ _ _ _ _ _ _ rfl rfl rfl rfl rfl rfl rfl).mono ?_⟩
    · unfold Six.parseK
      split
      · omega
      · split
        · omega
        · split
          · omega
          · split <;> omega
    · rintro e w' ⟨h1, _, h3⟩
      exact ⟨none, 0, 0, none, 0, [], h1 hk, rfl, Six.IsX.nil _ _ _, by omega, by unfold maxLen; omega, IsB.nil _ _ _, by omega, by unfold maxLen; omega, h3⟩
theorem SixOk.is {n : Nat} {xs : List UInt8} {acc : List (Int × List UInt8)} {nx : Nat} {rest : List UInt8} (h : SixOk n xs acc nx rest) (hnm : n ≤ 1099511627776) :
    SixIs n xs 0 (beN xs 0 4 / 1048576 % 256 : Nat) (beN xs 0 4 % 1048576 : Nat) (xs.getD 7 0).toNat true (beN xs 8 8) (beN xs 16 8) true (beN xs 24 8) (beN xs 32 8) acc nx rest.length rest := six_ok n xs hnm acc nx rest h.hk h.hR
theorem SixOk.facts {n : Nat} {xs : List UInt8} {acc : List (Int × List UInt8)} {nx : Nat} {rest : List UInt8} (h : SixOk n xs acc nx rest) :
    40 ≤ n ∧ (xs.getD 0 0).toNat / 16 = 6 ∧ beN xs 4 2 ≤ n - 40 ∧ 40 + Six.sumP acc + rest.length = 40 + beN xs 4 2 ∧ nx ≤ 255 ∧ acc.length ≤ 8 ∧ (∀ e ∈ acc, e.2.length ≤ 2047) ∧ Six.isB (nx : Int) = false := by
  have hk2 := h.hk
  have hxl := h.len
  unfold Six.parseK at hk2
  have h40 : 40 ≤ n := by
    by_cases h : n < 40
    · rw [if_pos h] at hk2; omega
    · omega
  rw [if_neg (show ¬ n < 40 by omega)] at hk2
  have hv : (xs.getD 0 0).toNat / 16 = 6 := by
    by_cases h : (xs.getD 0 0).toNat / 16 = 6
    · exact h
    · rw [if_pos h] at hk2; omega
  rw [if_neg (show ¬ ((xs.getD 0 0).toNat / 16 ≠ 6) from fun h => h hv)] at hk2
  have hsz : beN xs 4 2 ≤ n - 40 := by
    by_cases h : n - 40 < beN xs 4 2
    · rw [if_pos h] at hk2; omega
    · omega
  have hR2 := h.hR
  unfold Six.parseR at hR2
  have h6 : (xs.getD 6 0).toNat ≤ 255 := by have := (xs.getD 6 0).toNat_lt; omega
  obtain ⟨new, e1, e2, e3, e4, e5, e6, e7⟩ := Six.chainF_sound 9 _ _ [] acc nx rest hR2 rfl rfl (by simp) h6
  rw [List.nil_append] at e1
  subst e1
  have hall := fun e he => (Six.rightTo_len e4 e he)
  have hl3 := congrArg List.length e3
  rw [List.length_append, List.length_drop, List.length_take, Six.extB_length] at hl3
  exact ⟨h40, hv, hsz, by omega, e6, e7, hall, e5⟩
theorem SixOk.of_same {n : Nat} {xs ys : List UInt8} {acc : List (Int × List UInt8)} {nx : Nat} {rest : List UInt8} (h : SixOk n xs acc nx rest) (T : Nat) (hT : 40 + beN xs 4 2 = T) (hl : ys.length = T)
    (h0 : ∀ i, i < 7 → ys.getD i 0 = xs.getD i 0) (hd : ys.drop 40 = (xs.take T).drop 40) : SixOk T ys acc nx rest := by
  obtain ⟨f1, f2, f3, f4, _⟩ := h.facts
  have e0 := h0 0 (by omega)
  have e6 := h0 6 (by omega)
  have e4 : beN ys 4 2 = beN xs 4 2 := beN_congr _ _ _ _ fun i _ hi => h0 i (by omega)
  have hR : Six.parseR ys = some (acc, nx, rest) := by
    have := h.hR
    unfold Six.parseR at this ⊢
    rw [e6, e4, hT, List.take_of_length_le (by omega), hd, ← hT]
    exact this
  refine ⟨hl, ?_, hR⟩
  unfold Six.parseR at hR
  unfold Six.parseK
  rw [if_neg (by omega), if_neg (by rw [e0]; omega), if_neg (by rw [e4]; omega), hR]
  rfl
/-- A packet of version 6 with a time to live one less. -/
def lessB6 (xs : List UInt8) (T : Nat) : List UInt8 := (xs.take T).set 7 (UInt8.ofNat ((xs.getD 7 0).toNat - 1))
theorem lessB6_ok {n : Nat} {xs : List UInt8} {acc : List (Int × List UInt8)} {nx : Nat} {rest : List UInt8} (h : SixOk n xs acc nx rest) (T : Nat) (hT : 40 + Six.sumP acc + rest.length = T) :
    SixOk T (lessB6 xs T) acc nx rest ∧ (lessB6 xs T).length = T ∧ ((lessB6 xs T).getD 7 0).toNat = (xs.getD 7 0).toNat - 1 ∧ (∀ i, i < T → i ≠ 7 → (lessB6 xs T)[i]? = xs[i]?) := by
  obtain ⟨f1, f2, f3, f4, _⟩ := h.facts
  have hxl := h.len
  have yl : (lessB6 xs T).length = T := by unfold lessB6; rw [List.length_set, List.length_take]; omega
  have same : ∀ i, i < T → i ≠ 7 → (lessB6 xs T)[i]? = xs[i]? := by
    intro i hi h7
    unfold lessB6
    rw [List.getElem?_set_ne (by omega), List.getElem?_take_of_lt hi]
  refine ⟨h.of_same T (by omega) yl (fun i hi => getD_of_get (same i (by omega) (by omega))) ?_, yl, ?_, same⟩
  · unfold lessB6
    rw [List.drop_set_of_lt (by omega)]
  · have : (lessB6 xs T)[7]? = some (UInt8.ofNat ((xs.getD 7 0).toNat - 1)) := by unfold lessB6; rw [List.getElem?_set_self (by rw [List.length_take]; omega)]
    simp only [List.getD, this, Option.getD_some]
    rw [UInt8.toNat_ofNat']
    have := (xs.getD 7 0).toNat_lt
    simp only [List.getD] at *
    omega
end Tun
end Go.Proofs.Ytdmgbngdpjcliaa
/- The example of chapter 14. No condition. -/
namespace Go.Proofs.Ytdmgbngdpjcliaa
open Go.RowKit Go.ChangeShapes Go.WideShapes Go.ChangeAt Go.Deep
namespace Tun
/-- What a packet in one of version 4 is opened as. -/
theorem four_opens (p slo dlo n : Nat) (xs ys : List UInt8) (hxl : xs.length = n) (hn : n ≤ 4096) (hp : innerP xs = p) (hk : innerK n xs = 0) (b6 : slo < 4294967296) (b8 : dlo < 4294967296) (hys : Four.hdB 0 0 16384 64 p slo dlo [] n ++ xs = ys) :
    ∀ (A : Option Addr) (c : Nat) (W : World), IsB W W.heap.size A (20 + n) ys → 20 + n ≤ c → c ≤ maxLen → Calls Try.prog 23 #[.slice A (20 + n) c] W fun e w' => OpenEnd 0 false 0 slo false 0 dlo n xs W w' e := by
  have hp5 : (p = 4 ∨ p = 41) ∧ p ≤ 255 := by
    unfold innerP at hp
    unfold innerK at hk
    split at hk
    · cases hk
    · split at hk
      · rename_i h
        split at hp
        · omega
        · split at hp <;> omega
      · cases hk
  obtain ⟨hF, hl, hv⟩ := four_wrapped p slo dlo n xs ys hxl hn hp5.2 b6 b8 hys
  have hO := outer_four _ _ _ _ _ _ _ _ _ _ _ _ _ _ _ hF (.inr (by omega)) 0 (by simp)
  intro A c W hx hc hcm
  exact open_any _ _ _ _ _ _ _ _ _ _ _ _ hO 0 (by unfold openK; rw [if_neg (fun h => h rfl), if_neg (by omega), if_neg (fun h => h hk), if_neg (fun h => h hp)]) A c W hx hc hcm
theorem six_opens (p shi slo dhi dlo n : Nat) (xs ys : List UInt8) (hxl : xs.length = n) (hn : n ≤ 4096) (hp : innerP xs = p) (hk : innerK n xs = 0) (b5 : shi < 18446744073709551616) (b6 : slo < 18446744073709551616) (b7 : dhi < 18446744073709551616) (b8 : dlo < 18446744073709551616) (hys : Six.allB6 0 0 64 shi slo dhi dlo p [] xs = ys) :
    ∀ (A : Option Addr) (c : Nat) (W : World), IsB W W.heap.size A (40 + n) ys → 40 + n ≤ c → c ≤ maxLen → Calls Try.prog 23 #[.slice A (40 + n) c] W fun e w' => OpenEnd 0 true shi slo true dhi dlo n xs W w' e := by
  have hp5 : (p = 4 ∨ p = 41) ∧ p ≤ 255 := by
    unfold innerP at hp
    unfold innerK at hk
    split at hk
    · cases hk
    · split at hk
      · rename_i h
        split at hp
        · omega
        · split at hp <;> omega
      · cases hk
  obtain ⟨hF, hl, hv⟩ := six_wrapped p shi slo dhi dlo n xs ys hxl hn hp5.1 b5 b6 b7 b8 hys
  have hO := outer_six _ _ _ _ _ _ _ _ _ _ _ _ _ _ _ _ hF (by omega) hv 0 (by simp [Six.frag_nil])
  intro A c W hx hc hcm
  exact open_any _ _ _ _ _ _ _ _ _ _ _ _ hO 0 (by unfold openK; rw [if_neg (fun h => h rfl), if_neg (by omega), if_neg (fun h => h hk), if_neg (fun h => h hp)]) A c W hx hc hcm
theorem over40 (w : World) : Calls Try.prog 25 #[.bool true] w fun e w' => e = .returned (.int .i64 40) ∧ Below w.heap.size w w' := (over_any true w).mono fun _ _ ⟨h1, h2⟩ => ⟨h1, h2 ▸ Below.refl _ _⟩
theorem over20 (w : World) : Calls Try.prog 25 #[.bool false] w fun e w' => e = .returned (.int .i64 20) ∧ Below w.heap.size w w' := (over_any false w).mono fun _ _ ⟨h1, h2⟩ => ⟨h1, h2 ▸ Below.refl _ _⟩
set_option maxRecDepth 20000 in
set_option maxHeartbeats 4000000 in
theorem awake_any (w : World) : Calls Try.prog 22 #[] w fun e w' => e = .returned (.bool true) ∧ Below w.heap.size w w' := by
  obtain ⟨ys, hys⟩ : ∃ ys, Four.hdB 0 0 16384 64 4 1 2 [] 1 ++ [64] = ys := ⟨_, rfl⟩
  have hop := four_opens 4 1 2 1 [64] ys rfl (by omega) rfl rfl (by omega) (by omega) hys
  have hyl : ys.length = 21 := by rw [← hys, List.length_append, Four.hdB_length]; rfl
  replace hys := hide hys
  replace hop := hide hop
  replace hyl := hide hyl
  go_enter Try.func22, Try.ntmps22
  go_wp2_with fail
  refine (Four.v4_any 1 _ (by omega) (by omega)).mono ?_
  rintro e w1 ⟨rfl, hb1⟩
  replace hb1 := hide hb1
  go_wp2_with fail
  refine (Four.v4_any 2 _ (by omega) (by omega)).mono ?_
  rintro e w2 ⟨rfl, hb2⟩
  have hB2 := hb1.out.trans (hb2.mono hb1.out.size)
  clear hb2
  have hlit := OwnB.litv w2 w2.heap.size [.int .u8 64] [64] 1 rfl rfl (Nat.le_refl _) (by omega)
  have hi := hlit.reads.2.2.2
  replace hB2 := hide hB2
  replace hlit := hide hlit
  replace hi := hide hi
  go_wp2_with fail
  refine (wrap_four 1 2 _ 1 1 [64] _ hi.out (by omega) 4 rfl rfl (by omega) (by omega) (.inl rfl)).mono ?_
  rintro e w3 ⟨v3, rfl, hown, hb3⟩
  rw [hys.out] at hown
  obtain ⟨A3, c3, rfl, hc3, hm3, hi3⟩ := hown.form
  rw [hyl.out] at hc3 hi3 ⊢
  have hB3 := hB2.out.trans ((((Below.refl _ _).alloc (Nat.le_refl _) _).trans (hb3.mono (by simp))).mono hB2.out.size)
  clear hb3 hown hlit hi
  replace hB3 := hide hB3
  replace hi3 := hide hi3
  go_wp2_with fail
  refine (hop.out A3 c3 _ hi3.out hc3 hm3).mono ?_
  rintro e w4 ⟨_, h2, hb4⟩
  obtain ⟨A4, c4, rfl, hi4, hc4, hm4⟩ := h2 rfl
  clear h2
  obtain ⟨wb, hwb⟩ : ∃ wb, (w4.alloc (.cells #[.bool false, .int .u64 0, .int .u64 1] 26)).alloc (.cells #[.bool false, .int .u64 0, .int .u64 2] 26) = wb := ⟨_, rfl⟩
  have hbb : Below w4.heap.size w4 wb := hwb ▸ ((Below.refl _ _).alloc (Nat.le_refl _) _).alloc (by simp) _
  have hg6 : wb.heap[w4.heap.size]? = some (.cells #[.bool false, .int .u64 0, .int .u64 1] 26 (0, 0)) := hwb ▸ blk_old _ (by simp) (blk_new _ _ _)
  have hg7 : wb.heap[w4.heap.size + 1]? = some (.cells #[.bool false, .int .u64 0, .int .u64 2] 26 (0, 0)) := hwb ▸ (by simpa using blk_new (w4.alloc (.cells #[.bool false, .int .u64 0, .int .u64 1] 26)) 26 #[.bool false, .int .u64 0, .int .u64 2])
  have hzb : w4.heap.size + 1 < wb.heap.size := by rw [← hwb]; simp
  have hBb := hB3.out.trans ((hb4.trans (hbb.mono hb4.size)).mono hB3.out.size)
  have hib := hi4.on hbb
  have hcl := fun (l : Later wb) (o : Nat) => blk_cell (blk_below l.hb (by omega) hg6) o
  have hcm := fun (l : Later wb) (o : Nat) => blk_cell (blk_below l.hb hzb hg7) o
  have hs := fun l : Later wb => (hib.later l).str c4
  clear hb4 hbb hi4
  replace hg6 := hide hg6
  replace hg7 := hide hg7
  replace hBb := hide hBb
  replace hib := hide hib
  go_upto_region 3 with fail
  clear hwb
  have hst : str [64] = ⟨#[64]⟩ := rfl
  refine wp_region_L (by as_aux_lemma => kernel_rfl) ?_
  refine wpE_seg 0 32 (fuel := 0) (by as_aux_lemma => kernel_rfl) (fun d _ _ _ _ h => by cases d <;> exact h) (by as_aux_lemma => kernel_rfl) (by as_aux_lemma => kernel_rfl) ?_
  simp only [List.drop_zero, List.take_succ_cons, List.take_zero]
  (refine wpQE_step (fun K hK => ?_); go_simp; apply Exists.intro; refine ⟨fun l => ?_, hK _ ?_⟩; (go_at_call 25; refine (over40 _).mono ?_; rintro e w' ⟨rfl, hb⟩; exact ⟨rfl, hb⟩); clear hK K)
  iterate 2 (refine wpQE_step (fun K hK => ?_); go_simp; refine hK _ ?_; clear hK K)
  (refine wpQE_step (fun K hK => ?_); go_simp; apply Exists.intro; refine ⟨fun l => ?_, hK _ ?_⟩; (go_at_call 25; refine (over20 _).mono ?_; rintro e w' ⟨rfl, hb⟩; exact ⟨rfl, hb⟩); clear hK K)
  iterate 19 (refine wpQE_step (fun K hK => ?_); go_simp; refine hK _ ?_; clear hK K)
  (refine wpQE_step (fun K hK => ?_); go_simp; apply Exists.intro; refine ⟨fun l => ?_, hK _ ?_⟩; (go_at_call 48; refine (Four.v4_any 1 _ (by omega) (by omega)).mono ?_; rintro e w' ⟨rfl, hb⟩; exact ⟨rfl, hb⟩); clear hK K)
  iterate 4 (refine wpQE_step (fun K hK => ?_); go_simp; refine hK _ ?_; clear hK K)
  (refine wpQE_step (fun K hK => ?_); go_simp; apply Exists.intro; refine ⟨fun l => ?_, hK _ ?_⟩; (go_at_call 48; refine (Four.v4_any 2 _ (by omega) (by omega)).mono ?_; rintro e w' ⟨rfl, hb⟩; exact ⟨rfl, hb⟩); clear hK K)
  iterate 3 (refine wpQE_step (fun K hK => ?_); go_simp; refine hK _ ?_; clear hK K)
  refine wpQE_nil ?_
  refine wpE_done (by as_aux_lemma => kernel_rfl) (fun w5 hb5 => ?_) 0
  have hB5 := hBb.out.trans (hb5.mono hBb.out.size)
  clear hcl hcm hs hst hb5
  replace hB5 := hide hB5
  go_wp2_with fail
  go_ret
  exact ⟨rfl, hB5.out⟩
end Tun
end Go.Proofs.Ytdmgbngdpjcliaa
/- tun.Less by contract. Conditions: a slice of bytes that reads as a list, at most 65535 bytes. -/
namespace Go.Proofs.Ytdmgbngdpjcliaa
open Go.RowKit Go.ChangeShapes Go.WideShapes Go.ChangeAt Go.Deep
namespace Tun
open Pkt (InEnd)
set_option maxRecDepth 20000 in
set_option maxHeartbeats 4000000 in
theorem less4_bad (n : Nat) (xs : List UInt8) (K tos id : Nat) (df mf : Bool) (frag ttl proto slo dlo n1 m1 : Nat) (rest : List UInt8) (hK : K ≠ 0) (hS : FourIs n xs K tos id df mf frag ttl proto slo dlo n1 m1 rest) (U : List UInt8) (A : Option Addr) (c : Nat) (w : World) (hx : IsB w w.heap.size A n xs) (hnc : n ≤ c) (hcm : c ≤ maxLen) :
    Calls Try.prog 56 #[.slice A n c] w fun e w' => InEnd K U w w' e := by
  have t1 : ((K : Int) != 0) = true := by rw [bne_iff_ne]; omega
  replace hx := hide hx
  replace hS := hide hS
  go_enter Try.func56, Try.ntmps56
  go_wp2_with fail
  refine (hS.out _ c _ hx.out hnc hcm).mono ?_
  rintro e w2 ⟨A1, c1, A2, c2, rfl, hr, hm2, hc2, hb2⟩
  obtain ⟨wa, hwa⟩ : ∃ wa, w2.alloc (Four.hdC tos id df mf frag ttl proto false 0 slo false 0 dlo A1 n1 c1) = wa := ⟨_, rfl⟩
  have hB := hb2.trans ((hwa ▸ (Below.refl _ _).alloc (Nat.le_refl _) _ : Below w2.heap.size w2 wa).mono hb2.size)
  have hfin := InEnd.no U hK hB
  unfold Four.hdC at hwa
  unfold Four.hdV
  clear hr hb2 hB
  replace hfin := hide hfin
  go_wp2_with fail
  go_ret2
  exact hfin.out
set_option maxRecDepth 20000 in
set_option maxHeartbeats 4000000 in
theorem less4_old (n : Nat) (xs : List UInt8) (tos id : Nat) (df mf : Bool) (frag ttl proto slo dlo n1 m1 : Nat) (rest : List UInt8) (hS : FourIs n xs 0 tos id df mf frag ttl proto slo dlo n1 m1 rest) (ht : ttl < 2) (U : List UInt8) (A : Option Addr) (c : Nat) (w : World) (hx : IsB w w.heap.size A n xs) (hnc : n ≤ c) (hcm : c ≤ maxLen) :
    Calls Try.prog 56 #[.slice A n c] w fun e w' => InEnd 20 U w w' e := by
  replace hx := hide hx
  replace hS := hide hS
  go_enter Try.func56, Try.ntmps56
  go_wp2_with fail
  refine (hS.out _ c _ hx.out hnc hcm).mono ?_
  rintro e w2 ⟨A1, c1, A2, c2, rfl, hr, hm2, hc2, hb2⟩
  obtain ⟨wa, hwa⟩ : ∃ wa, w2.alloc (Four.hdC tos id df mf frag ttl proto false 0 slo false 0 dlo A1 n1 c1) = wa := ⟨_, rfl⟩
  have hga := hwa ▸ blk_new w2 51 #[.int .i64 tos, .int .i64 id, .bool df, .bool mf, .int .i64 frag, .int .i64 ttl, .int .i64 proto, .bool false, .int .u64 0, .int .u64 slo, .bool false, .int .u64 0, .int .u64 dlo, .slice A1 n1 c1]
  have hB := hb2.trans ((hwa ▸ (Below.refl _ _).alloc (Nat.le_refl _) _ : Below w2.heap.size w2 wa).mono hb2.size)
  have hfin := InEnd.no U (show 20 ≠ 0 by decide) hB
  have hcl := blk_cell hga
  unfold Four.hdC at hwa
  unfold Four.hdV
  clear hr hb2 hB
  replace hfin := hide hfin
  replace hga := hide hga
  go_wp2_with fail
  go_ret2
  exact hfin.out
set_option maxRecDepth 20000 in
set_option maxHeartbeats 4000000 in
theorem less4_yes (n : Nat) (xs : List UInt8) (tos id : Nat) (df mf : Bool) (frag ttl proto slo dlo n1 m1 : Nat) (rest : List UInt8) (hS : FourIs n xs 0 tos id df mf frag ttl proto slo dlo n1 m1 rest) (ht : 2 ≤ ttl) (T : Nat) (hT : 20 + n1 + m1 = T) (hTn : T ≤ n) (hn : n ≤ 65535) (h8 : 1 ≤ (xs.getD 8 0).toNat)
    (A : Option Addr) (c : Nat) (w : World) (hx : IsB w w.heap.size A n xs) (hnc : n ≤ c) (hcm : c ≤ maxLen) :
    Calls Try.prog 56 #[.slice A n c] w fun e w' => InEnd 0 (lessB4 xs T) w w' e := by
  replace hx := hide hx
  replace hS := hide hS
  go_enter Try.func56, Try.ntmps56
  go_wp2_with fail
  refine (hS.out _ c _ hx.out hnc hcm).mono ?_
  rintro e w2 ⟨A1, c1, A2, c2, rfl, hr, hm2, hc2, hb2⟩
  obtain ⟨wa, hwa⟩ : ∃ wa, w2.alloc (Four.hdC tos id df mf frag ttl proto false 0 slo false 0 dlo A1 n1 c1) = wa := ⟨_, rfl⟩
  have hba : Below w2.heap.size w2 wa := hwa ▸ (Below.refl _ _).alloc (Nat.le_refl _) _
  have hga := hwa ▸ blk_new w2 51 #[.int .i64 tos, .int .i64 id, .bool df, .bool mf, .int .i64 frag, .int .i64 ttl, .int .i64 proto, .bool false, .int .u64 0, .int .u64 slo, .bool false, .int .u64 0, .int .u64 dlo, .slice A1 n1 c1]
  have hB := hb2.trans (hba.mono hb2.size)
  have hcl := blk_cell hga
  unfold Four.hdC at hwa
  unfold Four.hdV
  clear hr hba hb2 hga
  have b1 : n1 ≤ 65535 := by omega
  have b2 : m1 ≤ 65535 := by omega
  replace hT := hide hT
  replace hB := hide hB
  go_wp2_with fail
  clear hwa hcl
  refine (Four.len_any tos id df mf frag ttl proto false 0 slo false 0 dlo A1 n1 c1 _ (by omega)).mono ?_
  rintro e w3 ⟨rfl, hb3⟩
  replace hB := hide (hB.out.trans (hb3.mono hB.out.size))
  clear hb3
  have z3 := hB.out.size
  obtain ⟨w4, hmk, hown, hb4⟩ := make_bytes T (by have := hT.out; omega) w3
  have s1 : 20 + (n1 : Int) + (m1 : Int) = (T : Int) := by have := hT.out; omega
  replace hB := hide (hB.out.trans (hb4.mono hB.out.size))
  clear hb4
  replace hown := hide hown
  go_upto_region 7 with fail
  clear s1 hmk
  apply wp_region_lit
  iterate 2 (refine wpList_plain rfl fun K hK => ?_; go_simp; refine hK _ _ ?_; clear hK K)
  have hxl := hx.out.1
  have hT20 : 20 ≤ T := by have := hT.out; omega
  refine wpl_copy_b rfl (.tmp 30) (.tmp 31) rfl w3.heap.size w3.heap.size T T 0 T T n c w4.heap.size T A (List.replicate T 0) xs rfl rfl hown.out (hx.out.on hB.out) (by omega) (by omega) (by omega) fun w5 hown5 hb5 => ?_
  rw [setB_whole _ _ (by rw [List.length_replicate, List.length_take]; omega)] at hown5
  replace hB := hide (hB.out.trans (hb5.mono z3))
  clear hown hb5
  refine wpList_nil ?_
  have hi5 := hown5.reads.2.2.2
  obtain ⟨v8, hv8, hv8l, hc8⟩ := hi5.byteAt (i := 8) (by omega)
  rw [Six.getD_take xs T 8 (by omega)] at hv8
  rw [Nat.zero_add] at hc8
  have hv1 : 1 ≤ v8 := by omega
  obtain ⟨g, cur, hgA, hgb, hgh, -⟩ := hown5.row (by omega)
  cases hgA
  have hf8 := blk_free hgh 8
  have hown6 := hown5.store 8 (UInt8.ofNat (v8 - 1))
  rw [u8v_nat (v8 - 1) (by omega)] at hown6
  rw [show (((v8 - 1 : Nat) : Int)) = (v8 : Int) - 1 by omega] at hown6
  obtain ⟨w6, hw6⟩ : ∃ w6, w5.setCell ⟨w3.heap.size, 8, none⟩ (.int .u8 ((v8 : Int) - 1)) = w6 := ⟨_, rfl⟩
  have hg6 : w5.grownBy w6 (some w3.heap.size) := hw6 ▸ grown_set (grown_refl _ _) rfl _
  have hB6 := hB.out.trans (below_grown hg6 (hB.out.size) z3)
  rw [hw6] at hown6
  have hi6 := hown6.reads.2.2.2
  obtain ⟨ys, hys⟩ : ∃ ys, (xs.take T).set 8 (UInt8.ofNat (v8 - 1)) = ys := ⟨_, rfl⟩
  rw [hys] at hown6 hi6
  obtain ⟨m, hm⟩ : ∃ m, beN (xs.take T) 8 2 = m := ⟨_, rfl⟩
  obtain ⟨m', hm'⟩ : ∃ m, beN ys 8 2 = m := ⟨_, rfl⟩
  obtain ⟨c0, hc0⟩ : ∃ m, beN ys 10 2 = m := ⟨_, rfl⟩
  obtain ⟨c', hc'⟩ : ∃ q, Sum.turnN c0 m m' = q := ⟨_, rfl⟩
  have bm : m < 65536 := hm ▸ beN_lt _ 8 2
  have bm' : m' < 65536 := hm' ▸ beN_lt _ 8 2
  have bc : c0 < 65536 := hc0 ▸ beN_lt _ 10 2
  have bc' : c' ≤ 65535 := hc' ▸ Sum.turnN_le _ _ _
  have hfin : setB ys 10 (beB c' 2) = lessB4 xs T := by
    have := lessB4_eq xs T v8 hT20 (by omega) hv8 hv1 m m' c0 c' hm (hys ▸ hm') (hys ▸ hc0) hc'
    rwa [hys] at this
  have i8 : (8 : Int) < (T : Int) := by omega
  have hA1 := fun w' => Octet.at_lit 8 2 8 2 rfl rfl (some ⟨w3.heap.size, 0, none⟩) T T (xs.take T) w'
  have hA2 := fun w' => Octet.at_lit 8 2 8 2 rfl rfl (some ⟨w3.heap.size, 0, none⟩) T T ys w'
  have hA3 := fun w' => Octet.at_lit 10 2 10 2 rfl rfl (some ⟨w3.heap.size, 0, none⟩) T T ys w'
  rw [hm] at hA1
  rw [hm'] at hA2
  rw [hc0] at hA3
  have hTm : T ≤ maxLen := by unfold maxLen; omega
  clear hgh hgb hg6 hown5
  replace hv8 := hide hv8
  replace hys := hide hys
  replace hm := hide hm
  replace hm' := hide hm'
  replace hc0 := hide hc0
  replace hc' := hide hc'
  replace hfin := hide hfin
  replace hown6 := hide hown6
  replace hi5 := hide hi5
  replace hi6 := hide hi6
  replace hB6 := hide hB6
  replace hA1 := hide hA1
  replace hA2 := hide hA2
  replace hA3 := hide hA3
  replace hxl := hide hxl
  go_wp2_with fail
  refine (hA1.out _ hi5.out hTm (by omega) (by omega)).mono ?_
  rintro e w' ⟨rfl, rfl⟩
  go_wp2_with fail
  clear hc8 hf8 hw6
  refine (hA3.out _ hi6.out hTm (by omega) (by omega)).mono ?_
  rintro e w' ⟨rfl, rfl⟩
  go_wp2_with fail
  refine (hA2.out _ hi6.out hTm (by omega) (by omega)).mono ?_
  rintro e w' ⟨rfl, rfl⟩
  go_wp2_with fail
  refine (Sum.turn_any c0 m m' _ (by omega) (by omega) (by omega)).mono ?_
  rintro e w' ⟨rfl, rfl⟩
  rw [hc'.out]
  go_wp2_with fail
  refine (set_in (some ⟨w3.heap.size, 0, none⟩) T T ys 10 c' 2 _ _ _ rfl rfl rfl _ hi6.out (by omega) (by omega) (by omega) (by omega) (by omega)).mono ?_
  rintro e w7 ⟨v7, rfl, hown7, hb7⟩
  rw [hfin.out] at hown7
  have hB7 := hB6.out.trans (hb7.mono hB6.out.size)
  have hend := InEnd.yes (hown7.weaken hB6.out.size) hB7
  clear hown7 hb7 hB7
  replace hend := hide hend
  go_wp2_with fail
  go_ret2
  exact hend.out
set_option maxRecDepth 20000 in
set_option maxHeartbeats 4000000 in
theorem less6_bad (n : Nat) (xs : List UInt8) (K : Nat) (cl la ho : Int) (b1 : Bool) (sh sl : Int) (b2 : Bool) (dh dl : Int) (acc : List (Int × List UInt8)) (nx m1 : Nat) (rest : List UInt8) (hS : SixIs n xs K cl la ho b1 sh sl b2 dh dl acc nx m1 rest) (hK : K ≠ 0) (hall : ∀ e ∈ acc, e.2.length ≤ 2047) (U : List UInt8) (A : Option Addr) (c : Nat) (w : World) (hx : IsB w w.heap.size A n xs) (hnc : n ≤ c) (hcm : c ≤ maxLen) :
    Calls Try.prog 57 #[.slice A n c] w fun e w' => InEnd K U w w' e := by
  have t1 : ((K : Int) != 0) = true := by rw [bne_iff_ne]; omega
  replace hx := hide hx
  replace hS := hide hS
  replace hall := hide hall
  go_enter Try.func57, Try.ntmps57
  go_wp2_with fail
  refine (hS.out _ c _ hx.out hnc hcm).mono ?_
  rintro e w2 ⟨X, m, xc, A2, c2, es, rfl, hpe, hX, hmx, hxm, hr, hm2, hc2, hb2⟩
  obtain ⟨wa, hwa⟩ : ∃ wa, w2.alloc (Six.hdC cl la ho b1 sh sl b2 dh dl X m xc nx) = wa := ⟨_, rfl⟩
  have hba : Below w2.heap.size w2 wa := hwa ▸ (Below.refl _ _).alloc (Nat.le_refl _) _
  have hga := hwa ▸ blk_new w2 29 #[.int .i64 cl, .int .i64 la, .int .i64 ho, .bool b1, .int .u64 sh, .int .u64 sl, .bool b2, .int .u64 dh, .int .u64 dl, .slice X m xc, .int .i64 nx]
  have hB := hb2.trans (hba.mono hb2.size)
  have hcl := blk_cell hga
  unfold Six.hdC at hwa
  have hfin := InEnd.no U hK hB
  clear hr hb2 hB hX hpe hcl hga hba
  replace hfin := hide hfin
  go_wp2_with fail
  go_ret2
  exact hfin.out
set_option maxRecDepth 20000 in
set_option maxHeartbeats 4000000 in
theorem less6_old (n : Nat) (xs : List UInt8) (cl la ho : Int) (b1 : Bool) (sh sl : Int) (b2 : Bool) (dh dl : Int) (acc : List (Int × List UInt8)) (nx m1 : Nat) (rest : List UInt8) (hS : SixIs n xs 0 cl la ho b1 sh sl b2 dh dl acc nx m1 rest) (ht : ho < 2) (hall : ∀ e ∈ acc, e.2.length ≤ 2047) (U : List UInt8) (A : Option Addr) (c : Nat) (w : World) (hx : IsB w w.heap.size A n xs) (hnc : n ≤ c) (hcm : c ≤ maxLen) :
    Calls Try.prog 57 #[.slice A n c] w fun e w' => InEnd 20 U w w' e := by
  replace hx := hide hx
  replace hS := hide hS
  replace hall := hide hall
  go_enter Try.func57, Try.ntmps57
  go_wp2_with fail
  refine (hS.out _ c _ hx.out hnc hcm).mono ?_
  rintro e w2 ⟨X, m, xc, A2, c2, es, rfl, hpe, hX, hmx, hxm, hr, hm2, hc2, hb2⟩
  obtain ⟨wa, hwa⟩ : ∃ wa, w2.alloc (Six.hdC cl la ho b1 sh sl b2 dh dl X m xc nx) = wa := ⟨_, rfl⟩
  have hba : Below w2.heap.size w2 wa := hwa ▸ (Below.refl _ _).alloc (Nat.le_refl _) _
  have hga := hwa ▸ blk_new w2 29 #[.int .i64 cl, .int .i64 la, .int .i64 ho, .bool b1, .int .u64 sh, .int .u64 sl, .bool b2, .int .u64 dh, .int .u64 dl, .slice X m xc, .int .i64 nx]
  have hB := hb2.trans (hba.mono hb2.size)
  have hcl := blk_cell hga
  unfold Six.hdC at hwa
  have hfin := InEnd.no U (show 20 ≠ 0 by decide) hB
  clear hr hb2 hB hX hpe hga hba
  replace hfin := hide hfin
  go_wp2_with fail
  go_ret2
  exact hfin.out
set_option maxRecDepth 20000 in
set_option maxHeartbeats 4000000 in
theorem less6_yes (n : Nat) (xs : List UInt8) (cl la ho : Int) (b1 : Bool) (sh sl : Int) (b2 : Bool) (dh dl : Int) (acc : List (Int × List UInt8)) (nx m1 : Nat) (rest : List UInt8) (hS : SixIs n xs 0 cl la ho b1 sh sl b2 dh dl acc nx m1 rest) (ht : 2 ≤ ho) (hal : acc.length ≤ 8) (hall : ∀ e ∈ acc, e.2.length ≤ 2047) (T : Nat) (hT : 40 + Six.sumP acc + m1 = T) (hTn : T ≤ n) (hn : n ≤ 65535) (h7 : 1 ≤ (xs.getD 7 0).toNat)
    (A : Option Addr) (c : Nat) (w : World) (hx : IsB w w.heap.size A n xs) (hnc : n ≤ c) (hcm : c ≤ maxLen) :
    Calls Try.prog 57 #[.slice A n c] w fun e w' => InEnd 0 (lessB6 xs T) w w' e := by
  replace hx := hide hx
  replace hS := hide hS
  replace hall := hide hall
  go_enter Try.func57, Try.ntmps57
  go_wp2_with fail
  refine (hS.out _ c _ hx.out hnc hcm).mono ?_
  rintro e w2 ⟨X, m, xc, A2, c2, es, rfl, hpe, hX, hmx, hxm, hr, hm2, hc2, hb2⟩
  obtain ⟨wa, hwa⟩ : ∃ wa, w2.alloc (Six.hdC cl la ho b1 sh sl b2 dh dl X m xc nx) = wa := ⟨_, rfl⟩
  have hba : Below w2.heap.size w2 wa := hwa ▸ (Below.refl _ _).alloc (Nat.le_refl _) _
  have hga := hwa ▸ blk_new w2 29 #[.int .i64 cl, .int .i64 la, .int .i64 ho, .bool b1, .int .u64 sh, .int .u64 sl, .bool b2, .int .u64 dh, .int .u64 dl, .slice X m xc, .int .i64 nx]
  have hB := hb2.trans (hba.mono hb2.size)
  have hcl := blk_cell hga
  unfold Six.hdC at hwa
  have hXa := hX.on hba
  have hm8 : m ≤ 8 := by rw [← hX.1, ← Six.pes_length, hpe]; exact hal
  have hes : ∀ e ∈ es, e.xs.length ≤ 2047 := fun e he => hall.out (Six.Ext.pe e) (hpe ▸ (List.mem_map_of_mem he : Six.Ext.pe e ∈ Six.pes es))
  obtain ⟨T0, hT0⟩ : ∃ T0, 40 + Six.sumL es = T0 := ⟨_, rfl⟩
  have hT00 : T0 + m1 = T := by rw [← hT0, Six.sumL_pes, hpe]; exact hT
  have hT40 : 40 ≤ T := by omega
  have hxl := hx.out.1
  clear hr hba hb2 hga
  replace hT := hide hT
  replace hpe := hide hpe
  replace hes := hide hes
  replace hT0 := hide hT0
  replace hX := hide hX
  replace hXa := hide hXa
  replace hxl := hide hxl
  replace hB := hide hB
  have s1 : (T0 : Int) + (m1 : Int) = (T : Int) := by omega
  have l1 : (T : Int) ≤ (c : Int) := by omega
  have b1' : T0 ≤ 65535 := by omega
  have b2' : m1 ≤ 65535 := by omega
  replace hT00 := hide hT00
  go_wp2_with fail
  clear hwa hcl
  refine (Six.len_any cl la ho b1 sh sl b2 dh dl X m xc nx es _ hXa.out hm8 hes.out T0 hT0.out).mono ?_
  rintro e w3 ⟨rfl, hb3⟩
  replace hB := hide (hB.out.trans (hb3.mono hB.out.size))
  clear hb3
  have hi3 := (hx.out.on hB.out).take (m := T) hTn
  have z3 := hB.out.size
  go_wp2_with (at_builtin; refine wpl_src_bv rfl _ (.tmp 28) rfl w3.heap.size (.slice none 0 0) [] (xs.take T) A T c w3.heap.size rfl rfl (OwnB.nil _ _) hi3 (Nat.le_refl _) ?_ ?_)
  · simp; omega
  intro v4 w4 hown4 hg4
  have hb4 := hg4.belowNil
  obtain ⟨A4, c4, rfl, hc4, hm4, hi4⟩ := hown4.form
  have tl : (xs.take T).length = T := by rw [List.length_take, hxl.out]; omega
  rw [tl] at hown4 hi4 hc4 ⊢
  replace hB := hide (hB.out.trans (hb4.mono hB.out.size))
  clear hb4
  clear hg4
  obtain ⟨g, cur, rfl, hgb, hgh, -⟩ := hown4.row (by omega)
  obtain ⟨v7, hv7, hv7l, hc7⟩ := hi4.byteAt (i := 7) (by omega)
  rw [Six.getD_take xs T 7 (by omega)] at hv7
  rw [Nat.zero_add] at hc7
  have hf7 := blk_free hgh 7
  have hown5 := hown4.store 7 (UInt8.ofNat (v7 - 1))
  rw [u8v_nat (v7 - 1) (by omega)] at hown5
  rw [show (((v7 - 1 : Nat) : Int)) = (v7 : Int) - 1 by omega] at hown5
  obtain ⟨w5, hw5⟩ : ∃ w5, w4.setCell ⟨g, 7, none⟩ (.int .u8 ((v7 : Int) - 1)) = w5 := ⟨_, rfl⟩
  have hg5 : w4.grownBy w5 (some g) := hw5 ▸ grown_set (grown_refl _ _) rfl _
  have hB5 := hB.out.trans (below_grown hg5 (hB.out.size) (by omega))
  rw [hw5] at hown5
  have hY : (xs.take T).set 7 (UInt8.ofNat (v7 - 1)) = lessB6 xs T := by unfold lessB6; rw [hv7]
  rw [hY] at hown5
  have hend := InEnd.yes (hown5.weaken (show w.heap.size ≤ w3.heap.size by omega)) hB5
  have i7 : (7 : Int) < (T : Int) := by omega
  have hv1 : 1 ≤ v7 := by omega
  clear hown5 hg5 hB5 hY hown4 hi4 hgh hgb hi3
  replace hend := hide hend
  replace hv7 := hide hv7
  replace tl := hide tl
  go_wp2_with fail
  go_ret2
  exact hend.out
/-- What tun.Less makes of bytes: why nothing, or a packet with a time to live one less. -/
theorem less_any (n : Nat) (xs : List UInt8) (K : Nat) (U : List UInt8) (A : Option Addr) (c : Nat) (w : World) (hx : IsB w w.heap.size A n xs) (hnc : n ≤ c) (hcm : c ≤ maxLen)
    (h0 : n = 0 → K = 2) (h4 : 0 < n → (xs.getD 0 0).toNat / 16 = 4 → ∀ w' : World, IsB w' w'.heap.size A n xs → Calls Try.prog 56 #[.slice A n c] w' fun e w'' => InEnd K U w' w'' e)
    (h6 : 0 < n → (xs.getD 0 0).toNat / 16 = 6 → ∀ w' : World, IsB w' w'.heap.size A n xs → Calls Try.prog 57 #[.slice A n c] w' fun e w'' => InEnd K U w' w'' e)
    (he : 0 < n → (xs.getD 0 0).toNat / 16 ≠ 4 → (xs.getD 0 0).toNat / 16 ≠ 6 → K = 10) :
    Calls Try.prog 28 #[.slice A n c] w fun e w' => InEnd K U w w' e := by
  by_cases hn : n = 0
  · subst hn
    obtain rfl := h0 rfl
    have hfin := InEnd.no U (show 2 ≠ 0 by decide) (Below.refl w.heap.size w)
    replace hx := hide hx
    replace h4 := hide h4
    replace h6 := hide h6
    replace he := hide he
    replace hfin := hide hfin
    go_enter Try.func28, Try.ntmps28
    go_wp2_with fail
    go_ret2
    exact hfin.out
  have hn0 : 0 < n := by omega
  obtain ⟨b, off, v0, rfl, hbl, hv0, hv0l, hc0⟩ := hx.byte (i := 0) hn0
  rw [Nat.add_zero] at hc0
  rw [hv0] at h4 h6 he
  have t2 : (0 : Int) < (n : Int) := by omega
  have t3 : ((n : Int) == 0) = false := by rw [beq_eq_false_iff_ne]; omega
  by_cases k4 : v0 / 16 = 4
  · have t1 : (((v0 : Int) / 16) == 4) = true := by rw [beq_iff_eq]; omega
    replace h4 := h4 hn0 k4
    clear h0 h6 he k4
    replace hx := hide hx
    replace h4 := hide h4
    replace hv0 := hide hv0
    replace hn := hide hn
    go_enter Try.func28, Try.ntmps28
    go_wp2_with fail
    refine (h4.out _ hx.out).mono ?_
    rintro e w2 ⟨v, rfl, h1, h2, hb⟩
    replace h1 := hide h1
    replace h2 := hide h2
    replace hb := hide hb
    go_wp2_with fail
    go_ret2
    exact ⟨v, rfl, h1.out, h2.out, hb.out⟩
  have t1 : (((v0 : Int) / 16) == 4) = false := by rw [beq_eq_false_iff_ne]; omega
  by_cases k6 : v0 / 16 = 6
  · have t4 : (((v0 : Int) / 16) == 6) = true := by rw [beq_iff_eq]; omega
    replace h6 := h6 hn0 k6
    clear h0 h4 he k4 k6
    replace hx := hide hx
    replace h6 := hide h6
    replace hv0 := hide hv0
    replace hn := hide hn
    go_enter Try.func28, Try.ntmps28
    go_wp2_with fail
    refine (h6.out _ hx.out).mono ?_
    rintro e w2 ⟨v, rfl, h1, h2, hb⟩
    replace h1 := hide h1
    replace h2 := hide h2
    replace hb := hide hb
    go_wp2_with fail
    go_ret2
    exact ⟨v, rfl, h1.out, h2.out, hb.out⟩
  · have t4 : (((v0 : Int) / 16) == 6) = false := by rw [beq_eq_false_iff_ne]; omega
    obtain rfl := he hn0 k4 k6
    have hfin := InEnd.no U (show 10 ≠ 0 by decide) (Below.refl w.heap.size w)
    clear h0 h4 h6 he k4 k6
    replace hx := hide hx
    replace hv0 := hide hv0
    replace hn := hide hn
    replace hfin := hide hfin
    go_enter Try.func28, Try.ntmps28
    go_wp2_with fail
    go_ret2
    exact hfin.out
end Tun
end Go.Proofs.Ytdmgbngdpjcliaa
