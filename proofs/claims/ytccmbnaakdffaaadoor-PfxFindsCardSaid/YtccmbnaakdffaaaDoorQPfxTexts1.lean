/- Single steps of regions: an operation of a known value; one that its guard leaves out. No condition. -/
import Derived.Test.YtccmbnaakdffaaaDoorQAddrParses1
import Derived.Test.YtccmbnaakdffaaaDoorQAddrParses6
import Derived.Test.YtccmbnaakdffaaaDoorQAddrParses4
import Derived.Test.YtccmbnaakdffaaaDoorQAddrBytes1
import Derived.Test.YtccmbnaakdffaaaDoorQAddrParses8
namespace Go.Proofs.YtccmbnaakdffaaaDoor
open Go.RowKit
section
variable {P : Program} {ops : Array Oper} {Q : Exit → Act → World → Prop} {a : Act} {w : World} {rest : List Oper} {op : Oper}
theorem wpl_val (v : Value) (hw : Region.wanted op (yielded ops a.tmps) = true) (hv : (execOp a.eval op).run P w = .ok (.value v) w) (h : wpList P ops Q rest (a.put op.dst v) w) : wpList P ops Q (op :: rest) a w := wpList_step fun K hK => by
  rw [if_pos hw]
  unfold Oper.wp
  rw [hv]
  exact hK _ _ h
theorem wpl_skip (hw : Region.wanted op (yielded ops a.tmps) = false) (h : wpList P ops Q rest (a.put op.dst undef) w) : wpList P ops Q (op :: rest) a w := wpList_step fun K hK => by
  rw [if_neg (by rw [hw]; exact Bool.false_ne_true)]
  exact hK _ _ h
theorem wpQE_skip {w0 : World} {Q : Act → Prop} (hw : Region.wanted op (yielded ops a.tmps) = false) (h : wpQE P ops w0 Q rest (a.put op.dst undef)) : wpQE P ops w0 Q (op :: rest) a := wpQE_step fun K hK => by
  rw [if_neg (by rw [hw]; exact Bool.false_ne_true)]
  exact hK _ h
/-- Are all these left out by their guards, one behind the other? -/
def skipB (ops : Array Oper) : List Oper → Act → Bool
  | [], _ => true
  | o :: l, a => !(Region.wanted o (yielded ops a.tmps)) && skipB ops l (a.put o.dst undef)
def putU : List Oper → Act → Act
  | [], a => a
  | o :: l, a => putU l (a.put o.dst undef)
theorem wpQE_skips {w0 : World} {Q : Act → Prop} : ∀ (l rest : List Oper) (a : Act), skipB ops l a = true → wpQE P ops w0 Q rest (putU l a) → wpQE P ops w0 Q (l ++ rest) a
  | [], _, _, _, h => h
  | o :: l, rest, a, hs, h => by
    unfold skipB at hs
    rw [Bool.and_eq_true, Bool.not_eq_true'] at hs
    exact wpQE_skip hs.1 (wpQE_skips l rest _ hs.2 h)
/-- A step of a known value, and then as many as are left out by their guards (one by one they cost a minute each: the goal would be a step that is not wanted). -/
theorem wpQE_val_skip {w0 : World} {Q : Act → Prop} (v : Value) (k : Nat) (hw : Region.wanted op (yielded ops a.tmps) = true) (hv : ∀ l : Later w0, (execOp a.eval op).run P l.w = .ok (.value v) l.w)
    (hs : skipB ops (rest.take k) (a.put op.dst v) = true) (h : wpQE P ops w0 Q (rest.drop k) (putU (rest.take k) (a.put op.dst v))) : wpQE P ops w0 Q (op :: rest) a := wpQE_step fun K hK => by
  rw [if_pos hw]
  refine ⟨v, fun l => ?_, hK _ ?_⟩
  · rw [hv l]
    exact ⟨rfl, lt_refl _⟩
  · have := wpQE_skips (P := P) (w0 := w0) (Q := Q) (rest.take k) (rest.drop k) (a.put op.dst v) hs h
    rwa [List.take_append_drop] at this
end
end Go.Proofs.YtccmbnaakdffaaaDoor
/- pfx: number: digits of a small number, held within 0 and 128. No condition. -/
namespace Go.Proofs.YtccmbnaakdffaaaDoor
open Go.RowKit Go.ChangeShapes Go.WideShapes Go.ChangeAt Go.Deep
namespace Addr05
theorem hexC_small (d : Nat) (h : d < 10) : Value.int .u8 (48 + (d : Int)) = u8v (hexC d) := by
  unfold u8v hexC
  rw [if_pos h]
  congr 1
  simp only [UInt8.toNat_ofNat']
  omega
set_option maxRecDepth 20000 in
set_option maxHeartbeats 4000000 in
theorem pnum_any (i : Int) (w : World) :
    Calls Tryd.prog 53 #[.int .i64 i] w fun e w' => e = .returned (.string (str (digL 10 (min (max i 0) 128).toNat))) ∧ Below w.heap.size w w' := by
  obtain ⟨m0, hm0⟩ : ∃ m : Nat, max i 0 = (m : Int) := ⟨(max i 0).toNat, by omega⟩
  obtain ⟨n, hn⟩ : ∃ n : Nat, min (m0 : Int) 128 = (n : Int) := ⟨(min (m0 : Int) 128).toNat, by omega⟩
  have hn128 : n ≤ 128 := by omega
  rw [hm0, hn, Int.toNat_natCast]
  go_enter Tryd.func53, Tryd.ntmps53
  go_wp2_with fail
  clear hm0 hn
  go_loopw [0, 3] (fun nv bv wr => ∃ (j m : Nat) (acc : List UInt8), j < 20 ∧ nv = .int .i64 (m : Int) ∧ m ≤ n ∧ m < 10 ^ (20 - j) ∧ digF 10 (20 - j) m ++ acc = digL 10 n ∧ acc.length = j ∧ OwnB wr w.heap.size bv acc ∧ Below w.heap.size w wr) (fun nv _ _ => (intOf nv).toNat)
  case atStart => exact ⟨0, n, [], by omega, rfl, Nat.le_refl _, by omega, by simp [digL], rfl, OwnB.nil _ _, Below.refl _ _⟩
  case round =>
    obtain ⟨j, m, acc, hj, rfl, hmn, hm, hd, hl, ho, hB⟩ := hrel
    obtain ⟨d, hdd⟩ : ∃ d, m % 10 = d := ⟨_, rfl⟩
    have hd10 : d < 10 := by omega
    have d1 : (m : Int) % 10 = (d : Int) := by omega
    have d2 : Int.tmod (m : Int) 10 = (d : Int) := by rw [Int.tmod_eq_emod_of_nonneg (by omega)]; omega
    have wd : IntKind.i64.wrap (48 + (d : Int)) = 48 + (d : Int) := wraps62 _ (by omega) (by omega)
    have wd8 : IntKind.u8.wrap (48 + (d : Int)) = 48 + (d : Int) := by rw [IntKind.wrap_u8]; omega
    have hlit := hexC_small d hd10
    replace hd := hide hd
    replace ho := hide ho
    replace hB := hide hB
    replace hlit := hide hlit
    obtain ⟨Ab, cb, rfl, hcb, hmb, hib⟩ := ho.out.form
    have hal := hl
    replace hib := hide hib
    replace hl := hide hl
    go_wp2_with (at_builtin; refine wpl_src_bv rfl (.tmp 13) (.tmp 14) rfl wr.heap.size (.slice (some ⟨wr.heap.size, 0, none⟩) 1 1) [hexC d] acc Ab acc.length cb wr.heap.size rfl rfl ?_ ?_ ?_ ?_ ?_)
    · exact OwnB.litv wr wr.heap.size _ [hexC d] 1 (by rw [hlit.out]; rfl) rfl (Nat.le_refl _) (by omega)
    · exact hib.out.below ((Below.refl _ _).alloc (Nat.le_refl _) _)
    · first | omega | simp
    · rw [List.length_singleton]; omega
    intro v2 w2 hown2 hg2
    have hb2 : Below wr.heap.size wr w2 := ((Below.refl _ _).alloc (Nat.le_refl _) _).trans (hg2.below (OwnB.litv wr wr.heap.size _ [hexC d] 1 (by rw [hlit.out]; rfl) rfl (Nat.le_refl _) (by omega)) (by simp))
    obtain ⟨q, hq⟩ : ∃ q, m / 10 = q := ⟨_, rfl⟩
    have q1 : (m : Int) / 10 = (q : Int) := by omega
    have q2 : Int.tdiv (m : Int) 10 = (q : Int) := by rw [Int.tdiv_eq_ediv_of_nonneg (by omega)]; omega
    have hsz := hB.out.size
    have hB2 := hB.out.trans (hb2.mono hsz)
    obtain ⟨t, ht⟩ : ∃ t, hexC d :: acc = t := ⟨_, rfl⟩
    have htl : t.length = j + 1 := by rw [← ht, List.length_cons, hl.out]
    rw [ht] at hown2
    obtain ⟨A2, c2, hv2, hc2, hm2, hi2⟩ := hown2.form
    rw [htl] at hv2 hc2 hi2
    subst hv2
    have hst := hi2.str c2
    have ho2 := hown2.weaken hsz
    clear hown2 hg2 hib ho
    have wq : IntKind.i64.wrap (q : Int) = (q : Int) := wraps62 _ (by omega) (by omega)
    replace hi2 := hide hi2
    replace hb2 := hide hb2
    replace hB2 := hide hB2
    replace ho2 := hide ho2
    replace hd := hide hd
    replace ht := hide ht
    replace hq := hide hq
    by_cases hz : m < 10
    · have t0 : decide ((m : Int) < 10) = true := by rw [decide_eq_true_eq]; omega
      go_wp2_with fail
      go_ret
      refine ⟨?_, hB2.out⟩
      obtain ⟨i, hi⟩ : ∃ i, 20 - j = i + 1 := ⟨19 - j, by omega⟩
      have h1 := hd.out.out
      rw [hi, digF_lt hz] at h1
      rw [Nat.mod_eq_of_lt hz] at hdd
      subst hdd
      have h3 : t = digL 10 n := by rw [← h1, ← ht.out]; rfl
      rw [← h3]
      rfl
    · have t0 : decide ((m : Int) < 10) = false := by rw [decide_eq_false_iff_not]; omega
      go_wp2_with fail
      have hqq := hq.out
      have hj19 : j < 19 := by
        rcases Nat.lt_or_ge j 19 with h | h
        · exact h
        · have e : j = 19 := by omega
          rw [e] at hm
          omega
      have h1 := hd.out.out
      have e2 : 20 - j = (19 - j) + 1 := by omega
      have e3 : 20 - (j + 1) = 19 - j := by omega
      rw [e2, digF_ge hz, hqq, hdd, List.append_assoc] at h1
      rw [e2, Nat.pow_succ] at hm
      refine ⟨⟨j + 1, q, t, by omega, rfl, by omega, ?_, ?_, htl, ho2.out, hB2.out⟩, ?_⟩
      · rw [e3, ← hqq]
        exact Nat.div_lt_of_lt_mul (by rw [Nat.mul_comm]; exact hm)
      · rw [e3, ← h1, ← ht.out]; rfl
      · simp only [intOf]; omega
end Addr05
end Go.Proofs.YtccmbnaakdffaaaDoor
/- pfx: plain: what Parse makes of a text is the prefix whose text it is, or none; what Text makes is parsed again. No condition. -/
namespace Go.Proofs.YtccmbnaakdffaaaDoor
open Go.RowKit Go.ChangeShapes Go.WideShapes Go.ChangeAt Go.Deep
namespace Addr05
instance (a : Adr) : Decidable a.right := by unfold Adr.right; infer_instance
deriving instance DecidableEq for Adr
/-- May a prefix be? -/
def Adr.rightP (a : Adr) (n : Nat) : Bool := decide (a.right ∧ n ≤ a.w ∧ a.mask n = a)
/-- The number that digits are. -/
def tailF : Nat → List UInt8 → Option Nat
  | n, [] => some n
  | n, c :: r => if 48 ≤ c.toNat ∧ c.toNat ≤ 57 then tailF (10 * n + (c.toNat - 48)) r else none
def pfxF (s : List UInt8) : Option (Adr × Nat) :=
  match parseF (Lib.cut s [47]).1 with
  | none => none
  | some a => if (Lib.cut s [47]).2.2 = false ∨ (Lib.cut s [47]).2.1.length < 1 ∨ 3 < (Lib.cut s [47]).2.1.length then none else match tailF 0 (Lib.cut s [47]).2.1 with
    | none => none
    | some n => if a.rightP n = true ∧ digL 10 n = (Lib.cut s [47]).2.1 then some (a, n) else none
def textP (a : Adr) (n : Nat) : List UInt8 := textA a ++ 47 :: digL 10 n
theorem hexC_dec : ∀ d, d < 10 → 48 ≤ (hexC d).toNat ∧ (hexC d).toNat ≤ 57 ∧ (hexC d).toNat - 48 = d := by decide
theorem tailF_cons (n d : Nat) (r : List UInt8) (hd : d < 10) : tailF n (hexC d :: r) = tailF (10 * n + d) r := by
  obtain ⟨h1, h2, h3⟩ := hexC_dec d hd
  rw [tailF, if_pos ⟨h1, h2⟩, h3]
theorem tail_dig (n : Nat) (h : n ≤ 255) : tailF 0 (digL 10 n) = some n := by
  rw [dig10 n h]
  split
  · rw [tailF_cons _ _ _ (by omega), tailF]; simp
  · split
    · rw [tailF_cons _ _ _ (by omega), tailF_cons _ _ _ (by omega), tailF]; congr 1; omega
    · rw [tailF_cons _ _ _ (by omega), tailF_cons _ _ _ (by omega), tailF_cons _ _ _ (by omega), tailF]; congr 1; omega
theorem hexC_47 : ∀ d, d < 16 → hexC d ≠ 47 := by decide
theorem digL_47 (b n : Nat) (hb : b = 10 ∨ b = 16) : (47 : UInt8) ∉ digL b n := by
  intro h
  obtain ⟨d, hd, e⟩ := digF_mem b (by omega) _ _ _ h
  exact hexC_47 d (by omega) e.symm
theorem textA_47 (a : Adr) : (47 : UInt8) ∉ textA a := by
  unfold textA textL
  split
  · have h6 : ∀ ws : List Nat, ∀ x ∈ d6 ws, (47 : UInt8) ∉ x := by
      intro ws x hx
      obtain ⟨n, _, rfl⟩ := List.mem_map.1 hx
      exact digL_47 16 n (.inr rfl)
    unfold text6
    split
    · exact join_no 47 58 (by decide) _ (h6 _)
    · rw [List.mem_append, not_or, List.mem_append, not_or]
      refine ⟨⟨join_no 47 58 (by decide) _ fun x hx => h6 _ x (List.mem_of_mem_take hx), by decide⟩, join_no 47 58 (by decide) _ fun x hx => h6 _ x (List.mem_of_mem_drop hx)⟩
  · have h4 : ∀ lo k, ∀ x ∈ d4 lo k, (47 : UInt8) ∉ x := by
      intro lo k
      induction k with
      | zero => intro x hx; cases hx
      | succ k ih =>
        intro x hx
        rw [d4] at hx
        rcases List.mem_cons.1 hx with rfl | hx
        · exact digL_47 10 _ (.inl rfl)
        · exact ih x hx
    exact join_no 47 46 (by decide) _ (h4 _ _)
theorem cut1_hit (c : UInt8) (x r : List UInt8) (h : c ∉ x) : Lib.cut (x ++ c :: r) [c] = (x, r, true) := by
  unfold Lib.cut
  rw [index_app c x r h, if_pos (by omega)]
  simp
theorem cut1_miss (c : UInt8) (x : List UInt8) (h : c ∉ x) : Lib.cut x [c] = (x, [], false) := by
  unfold Lib.cut
  rw [index_no c x h, if_neg (by omega)]
theorem cut1_back (c : UInt8) : ∀ s : List UInt8, (Lib.cut s [c]).2.2 = true → s = (Lib.cut s [c]).1 ++ c :: (Lib.cut s [c]).2.1
  | s, h => by
    by_cases hc : c ∈ s
    · obtain ⟨x, r, e, hx⟩ : ∃ x r, s = x ++ c :: r ∧ c ∉ x := by
        clear h
        induction s with
        | nil => cases hc
        | cons a s ih =>
          by_cases ha : a = c
          · exact ⟨[], s, by rw [ha]; rfl, by simp⟩
          · rcases List.mem_cons.1 hc with h | h
            · exact absurd h.symm ha
            · obtain ⟨x, r, e, hx⟩ := ih h
              exact ⟨a :: x, r, by rw [e]; rfl, by rw [List.mem_cons, not_or]; exact ⟨Ne.symm ha, hx⟩⟩
      rw [e, cut1_hit c x r hx]
    · rw [cut1_miss c s hc] at h
      cases h
theorem Adr.w_le (a : Adr) : a.w ≤ 128 := by unfold Adr.w; split <;> omega
theorem rightP_w (a : Adr) (n : Nat) (h : a.rightP n = true) : a.right ∧ n ≤ a.w ∧ a.mask n = a := of_decide_eq_true h
theorem pfx_text (a : Adr) (n : Nat) (ho : a.ok) (h : a.rightP n = true) : pfxF (textP a n) = some (a, n) := by
  obtain ⟨h1, h2, h3⟩ := rightP_w a n h
  have h128 := a.w_le
  unfold pfxF textP
  rw [cut1_hit 47 _ _ (textA_47 a)]
  dsimp only
  rw [parse_text a h1 ho]
  dsimp only
  have hl := dig10_len n (by omega)
  have hn := List.length_pos_iff.2 (digL_ne 10 n)
  rw [if_neg (by rintro (h | h | h)
                 · cases h
                 · omega
                 · omega), tail_dig n (by omega)]
  dsimp only
  rw [if_pos ⟨h, rfl⟩]
theorem pfx_some (s : List UInt8) (a : Adr) (n : Nat) (h : pfxF s = some (a, n)) : a.rightP n = true ∧ textP a n = s ∧ a.ok := by
  unfold pfxF at h
  split at h
  · cases h
  · rename_i b hb
    split at h
    · cases h
    · rename_i hc
      split at h
      · cases h
      · rename_i m hm
        split at h
        · rename_i hr
          cases h
          obtain ⟨h1, h2, h3⟩ := parse_some _ _ hb
          refine ⟨hr.1, ?_, h2⟩
          unfold textP
          rw [h1, hr.2]
          refine (cut1_back 47 s ?_).symm
          cases hcut : (Lib.cut s [47]).2.2
          · exact absurd (.inl hcut) hc
          · rfl
        · cases h
end Addr05
end Go.Proofs.YtccmbnaakdffaaaDoor
/- pfx: cut, Mask: an address with its last bits 0. Conditions: numbers of 64 bits. -/
namespace Go.Proofs.YtccmbnaakdffaaaDoor
open Go.RowKit Go.ChangeShapes Go.WideShapes Go.ChangeAt Go.Deep
namespace Addr05
theorem high_eq (k : Nat) (hk : k ≤ 64) : 18446744073709551616 - 2 ^ k = (2 ^ (64 - k) - 1) * 2 ^ k := by
  rw [Nat.sub_mul, Nat.one_mul, ← Nat.pow_add, show 64 - k + k = 64 by omega]
theorem and_high (a k : Nat) (ha : a < 18446744073709551616) (hk : k ≤ 64) : a &&& (18446744073709551616 - 2 ^ k) = mkB a k := by
  apply Nat.eq_of_testBit_eq
  intro j
  rw [Nat.testBit_and, testBit_mkB, high_eq k hk, ← Nat.shiftLeft_eq, Nat.testBit_shiftLeft, Nat.testBit_two_pow_sub_one]
  by_cases hkj : k ≤ j
  · by_cases hj : j < 64
    · simp [hkj, show j - k < 64 - k by omega]
    · rw [Nat.testBit_lt_two_pow (Nat.lt_of_lt_of_le ha (show 2 ^ 64 ≤ 2 ^ j from Nat.pow_le_pow_right (by omega) (by omega)))]
      simp
  · simp [hkj]
theorem u64_high (a k : Nat) (ha : a < 18446744073709551616) (hk : k ≤ 64) : bits .and .u64 (a : Int) ((18446744073709551616 - 2 ^ k : Nat) : Int) = ((mkB a k : Nat) : Int) := by
  have hp : 0 < 2 ^ k := Nat.two_pow_pos k
  rw [(bits_nat .u64 64 (by decide) wrapsu64 a (18446744073709551616 - 2 ^ k) ha (by omega)).1, and_high a k ha hk]
set_option maxRecDepth 20000 in
theorem pcut_any (b : Nat) (hb : b ≤ 64) (w : World) :
    Calls Tryd.prog 54 #[.int .i64 (b : Int)] w fun e w' => e = .returned (.int .u64 ((18446744073709551616 - 2 ^ (64 - b) : Nat) : Int)) ∧ w' = w := by
  by_cases h0 : b = 0
  · subst h0
    go_enter Tryd.func54, Tryd.ntmps54
    go_wp2_with fail
    go_ret
    exact ⟨rfl, rfl⟩
  · have t0 : ((b : Int) == 0) = false := by rw [beq_eq_false_iff_ne]; omega
    obtain ⟨s, hs⟩ : ∃ s, 64 - b = s := ⟨_, rfl⟩
    have ws : IntKind.i64.wrap (64 - (b : Int)) = (s : Int) := by rw [wraps62 _ (by omega) (by omega)]; omega
    have i1 : (0 : Int) ≤ (s : Int) := by omega
    have min64 : min s 64 = s := by omega
    have hw : IntKind.u64.wrap (18446744073709551615 * 2 ^ s) = ((18446744073709551616 - 2 ^ s : Nat) : Int) := by
      have h1 : 0 < 2 ^ s := Nat.two_pow_pos s
      have h2 : 2 ^ s ≤ 2 ^ 64 := Nat.pow_le_pow_right (by omega) (by omega)
      have e : ((2 : Int) ^ s) = ((2 ^ s : Nat) : Int) := by push_cast; rfl
      rw [IntKind.wrap_u64, e]
      obtain ⟨P, hP⟩ : ∃ P, 2 ^ s = P := ⟨_, rfl⟩
      rw [hP] at h1 h2 ⊢
      omega
    rw [hs, ← hw]
    replace hs := hide hs
    replace h0 := hide h0
    replace hw := hide hw
    go_enter Tryd.func54, Tryd.ntmps54
    go_wp2_with fail
    go_ret
    exact ⟨rfl, rfl⟩
def clampN (a : Adr) (i : Int) : Nat := (min (max i 0) (a.w : Int)).toNat
theorem pcut_bel (b : Nat) (hb : b ≤ 64) (w : World) :
    Calls Tryd.prog 54 #[.int .i64 (b : Int)] w fun e w' => e = .returned (.int .u64 ((18446744073709551616 - 2 ^ (64 - b) : Nat) : Int)) ∧ Below w.heap.size w w' :=
  (pcut_any b hb w).mono fun _ _ h => ⟨h.1, h.2 ▸ Below.refl _ _⟩
set_option maxRecDepth 20000 in
set_option maxHeartbeats 8000000 in
theorem Mask_any (a : Adr) (ho : a.ok) (i : Int) (w : World) :
    Calls Tryd.prog 30 #[.agg #[.bool a.v6, .int .u64 (a.hi : Int), .int .u64 (a.lo : Int)], .int .i64 i] w fun e w' => e = .returned (.agg (a.mask (clampN a i)).arr) ∧ Below w.heap.size w w' := by
  obtain ⟨v, hi, lo⟩ := a
  obtain ⟨hhi, hlo⟩ := ho
  dsimp only at hhi hlo ⊢
  obtain ⟨w1, hw1⟩ : ∃ w1, w.alloc (.cells #[.bool v, .int .u64 (hi : Int), .int .u64 (lo : Int)] 24) = w1 := ⟨_, rfl⟩
  have hg1 : w1.heap[w.heap.size]? = some (.cells #[.bool v, .int .u64 (hi : Int), .int .u64 (lo : Int)] 24 (0, 0)) := hw1 ▸ blk_new _ _ _
  have hz1 : w1.heap.size = w.heap.size + 1 := by rw [← hw1]; simp
  have hB1 : Below w.heap.size w w1 := hw1 ▸ (Below.refl _ _).alloc (Nat.le_refl _) _
  obtain ⟨w2, hw2⟩ : ∃ w2, w1.alloc (.cells #[.bool false, .int .u64 0, .int .u64 0] 24) = w2 := ⟨_, rfl⟩
  have hg2 : w2.heap[w1.heap.size]? = some (.cells #[.bool false, .int .u64 0, .int .u64 0] 24 (0, 0)) := hw2 ▸ blk_new _ _ _
  have hB2' : Below w1.heap.size w1 w2 := hw2 ▸ (Below.refl _ _).alloc (Nat.le_refl _) _
  have hz2 : w1.heap.size < w2.heap.size := by rw [← hw2]; simp
  rw [hz1] at hg2
  have hg1 := blk_below hB2' (by omega) hg1
  have hB2 := hB1.trans (hB2'.mono hB1.size)
  clear hB1 hB2'
  have hz : w.heap.size + 1 < w2.heap.size := by omega
  obtain ⟨m, hm⟩ : ∃ m : Nat, max i 0 = (m : Int) := ⟨(max i 0).toNat, by omega⟩
  have hcl : clampN ⟨v, hi, lo⟩ i = min m (Adr.w ⟨v, hi, lo⟩) := by unfold clampN; rw [hm]; omega
  rw [hcl]
  clear hcl
  cases v
  · obtain ⟨B, hBm⟩ : ∃ B, min m 32 = B := ⟨_, rfl⟩
    have hBi : min (m : Int) 32 = (B : Int) := by omega
    have hres : (Adr.mask ⟨false, hi, lo⟩ (min m (Adr.w ⟨false, hi, lo⟩))) = ⟨false, hi, mkB lo (32 - B)⟩ := by
      show Adr.mask ⟨false, hi, lo⟩ (min m 32) = _
      rw [hBm]; rfl
    rw [hres]
    unfold Adr.arr
    dsimp only
    obtain ⟨c, hc⟩ : ∃ c, B + 32 = c := ⟨_, rfl⟩
    have wc' : IntKind.i64.wrap ((B : Int) + 32) = (c : Int) := by rw [wraps62 _ (by omega) (by omega)]; omega
    have hbits := fun w => Bits_any false (hi : Int) (lo : Int) w
    have q1 := fun l => pcut_bel c (by omega) l
    have hand := u64_high lo (64 - c) hlo (by omega)
    rw [show 64 - c = 32 - B by omega] at hand
    have e1 : ∀ w : World, Calls Tryd.prog 54 #[.int .i64 (c : Int)] w fun e w' => e = .returned (.int .u64 ((18446744073709551616 - 2 ^ (32 - B) : Nat) : Int)) ∧ Below w.heap.size w w' := by
      intro w
      have := q1 w
      rwa [show 64 - c = 32 - B by omega] at this
    obtain ⟨H, hH⟩ : ∃ H, 18446744073709551616 - 2 ^ (32 - B) = H := ⟨_, rfl⟩
    obtain ⟨R, hR⟩ : ∃ R, mkB lo (32 - B) = R := ⟨_, rfl⟩
    rw [hH] at hand e1
    rw [hR] at hand ⊢
    have hcg := blk_cell hg1
    clear q1 hres
    replace hg1 := hide hg1
    replace hg2 := hide hg2
    replace hB2 := hide hB2
    replace hbits := hide hbits
    replace e1 := hide e1
    replace hH := hide hH
    replace hR := hide hR
    replace hBm := hide hBm
    replace hc := hide hc
    go_enter Tryd.func30, Tryd.ntmps30
    go_wp2_with fail
    clear hw1 hw2
    refine (hbits.out w2).mono ?_
    rintro e w3 ⟨rfl, hb3⟩
    have hg13 := blk_below hb3 (by omega) hg1.out
    have hg23 := blk_below hb3 hz hg2.out
    have hB3 := hB2.out.trans (hb3.mono hB2.out.size)
    have hz3 := hb3.size
    clear hb3 hcg hg1 hg2 hB2 hbits
    have hcg := blk_cell hg13
    replace hg13 := hide hg13
    replace hg23 := hide hg23
    replace hB3 := hide hB3
    simp only [Bool.false_eq_true, if_false]
    go_upto_region 4 with fail
    have hcl := fun l : Later w3 => blk_cell (blk_below l.hb (by omega) hg13.out)
    have q := fun l : Later w3 => e1.out l.w
    clear hcg
    refine wp_region_L (by as_aux_lemma => kernel_rfl) ?_
    refine wpE_seg 0 3 (fuel := 4) (by as_aux_lemma => kernel_rfl) (fun d _ _ _ _ h => by cases d <;> exact h) (by as_aux_lemma => kernel_rfl) (by as_aux_lemma => kernel_rfl) ?_
    simp only [List.drop_zero, List.take_succ_cons, List.take_zero]
    iterate 3 (refine wpQE_step (fun K hK => ?_); go_simp; refine hK _ ?_; clear hK K)
    refine wpQE_nil ?_
    refine wpE_seg 3 2 (fuel := 2) (by as_aux_lemma => kernel_rfl) (fun d _ _ _ _ h => by cases d <;> exact h) (by as_aux_lemma => kernel_rfl) (by as_aux_lemma => kernel_rfl) ?_
    simp only [List.drop_succ_cons, List.drop_zero, List.take_succ_cons, List.take_zero]
    (refine wpQE_step (fun K hK => ?_); go_simp; apply Exists.intro; refine ⟨fun l => ?_, hK _ ?_⟩; (go_at_call 54; refine (q l).mono ?_; rintro e w' ⟨rfl, hb⟩; exact ⟨rfl, hb⟩); clear hK K)
    iterate 1 (refine wpQE_step (fun K hK => ?_); go_simp; refine hK _ ?_; clear hK K)
    refine wpQE_nil ?_
    clear hcl q
    refine wpE_end (by as_aux_lemma => kernel_rfl) (fun l2 => ?_)
    have hg14 := blk_below l2.hb (by omega) hg13.out
    have hg24 := blk_below l2.hb (by omega) hg23.out
    have hB4 := hB3.out.trans (l2.hb.mono hB3.out.size)
    have hz4 := l2.hb.size
    obtain ⟨w9, e9, hg9, g9⟩ := store_cell hg14 2 (.int .u64 (R : Int))
    have hg9 : w9.heap[w.heap.size]? = some (.cells #[.bool false, .int .u64 (hi : Int), .int .u64 (R : Int)] 24 (0, 0)) := hg9
    have c9 := blk_cell hg14 2
    have f9 := blk_free hg14 2
    replace hg9 := hide hg9
    replace g9 := hide g9
    replace hg24 := hide hg24
    replace hB4 := hide hB4
    replace hg14 := hide hg14
    refine wpT_step 5 rfl (by as_aux_lemma => kernel_rfl) (fun K hK => ?_)
    go_simp
    refine hK _ _ ?_
    clear hK K
    refine wpT_step 6 rfl (by as_aux_lemma => kernel_rfl) (fun K hK => ?_)
    go_simp
    refine hK _ _ ?_
    clear hK K
    refine wpT_done (by as_aux_lemma => kernel_rfl) ?_ 0
    have hr9 := grown_other g9.out (by omega) (by omega) hg24.out
    have hB9 : Below w.heap.size w w9 := hB4.out.trans (below_grown g9.out (by omega) (Nat.le_refl _))
    have hz9 := g9.out.size
    clear e9 c9 f9 g9 hg24 hB4 hg13 hg23 hB3 hg14
    replace hr9 := hide hr9
    replace hB9 := hide hB9
    go_upto_region 5 with fail
    apply wp_region_lit
    refine wpl_ld rfl 24 (.tmp 2) rfl w.heap.size rfl _ _ hg9.out Tryd.underlying24 rfl (by kernel_rfl) ?_
    refine wpl_st rfl 24 (.tmp 4) (.tmp 21) rfl (w.heap.size + 1) 0 rfl (#[.bool false, .int .u64 (hi : Int), .int .u64 (R : Int)]) rfl hr9.out (by simp) (by kernel_rfl) (adr_one _ _ _) fun w9 hg9 g9 => ?_
    rw [putA_whole _ _ (by rfl)] at hg9
    have hb9 : Below (w.heap.size) w w9 := (hB9.out).trans (below_grown g9 (by have := (hB9.out).size; omega) (by omega))
    have hld : (loadVar 24 ⟨w.heap.size + 1, 0, none⟩).run Tryd.prog w9 = .ok (.agg (#[.bool false, .int .u64 (hi : Int), .int .u64 (R : Int)])) w9 := by
      simpa using run_loadVar_mid w9 (w.heap.size + 1) 0 24 (#[.bool false, .int .u64 (hi : Int), .int .u64 (R : Int)]).toList _ (blk_range hg9) Tryd.underlying24 rfl (by kernel_rfl)
    clear hg9 g9
    replace hld := hide hld
    replace hb9 := hide hb9
    refine wpList_nil ?_
    go_simp
    go_wp2_with fail
    exact bodyPost_ret (v := .agg #[.bool false, .int .u64 (hi : Int), .int .u64 (R : Int)]) (by simp [results, Tryd.results30, asAddr, hld.out, Result.andThen]) rfl ⟨rfl, hb9.out⟩
  · obtain ⟨B, hBm⟩ : ∃ B, min m 128 = B := ⟨_, rfl⟩
    have hBi : min (m : Int) 128 = (B : Int) := by omega
    have hres : (Adr.mask ⟨true, hi, lo⟩ (min m (Adr.w ⟨true, hi, lo⟩))) = ⟨true, mkB hi (64 - min B 64), mkB lo (64 - (B - 64))⟩ := by
      show Adr.mask ⟨true, hi, lo⟩ (min m 128) = _
      rw [hBm]; rfl
    rw [hres]
    unfold Adr.arr
    dsimp only
    obtain ⟨c1, hc1⟩ : ∃ c, min B 64 = c := ⟨_, rfl⟩
    obtain ⟨c2, hc2⟩ : ∃ c, B - 64 = c := ⟨_, rfl⟩
    have wm1 : min (B : Int) 64 = (c1 : Int) := by omega
    have ws2 : IntKind.i64.wrap ((B : Int) - 64) = (B : Int) - 64 := by rw [IntKind.wrap_i64]; omega
    have wm2 : max ((B : Int) - 64) 0 = (c2 : Int) := by omega
    rw [hc1, hc2]
    have hbits := fun w => Bits_any true (hi : Int) (lo : Int) w
    have q1 := fun w => pcut_bel c1 (by omega) w
    have q2 := fun w => pcut_bel c2 (by omega) w
    have hand1 := u64_high hi (64 - c1) hhi (by omega)
    have hand2 := u64_high lo (64 - c2) hlo (by omega)
    obtain ⟨H1, hH1⟩ : ∃ H, 18446744073709551616 - 2 ^ (64 - c1) = H := ⟨_, rfl⟩
    obtain ⟨H2, hH2⟩ : ∃ H, 18446744073709551616 - 2 ^ (64 - c2) = H := ⟨_, rfl⟩
    obtain ⟨R1, hR1⟩ : ∃ R, mkB hi (64 - c1) = R := ⟨_, rfl⟩
    obtain ⟨R2, hR2⟩ : ∃ R, mkB lo (64 - c2) = R := ⟨_, rfl⟩
    rw [hH1] at hand1 q1
    rw [hH2] at hand2 q2
    rw [hR1] at hand1 ⊢
    rw [hR2] at hand2 ⊢
    have hcg := blk_cell hg1
    clear hres
    replace hg1 := hide hg1
    replace hg2 := hide hg2
    replace hB2 := hide hB2
    replace hbits := hide hbits
    replace q1 := hide q1
    replace q2 := hide q2
    replace hH1 := hide hH1
    replace hH2 := hide hH2
    replace hR1 := hide hR1
    replace hR2 := hide hR2
    replace hBm := hide hBm
    replace hc1 := hide hc1
    replace hc2 := hide hc2
    go_enter Tryd.func30, Tryd.ntmps30
    go_wp2_with fail
    clear hw1 hw2
    refine (hbits.out w2).mono ?_
    rintro e w3 ⟨rfl, hb3⟩
    have hg13 := blk_below hb3 (by omega) hg1.out
    have hg23 := blk_below hb3 hz hg2.out
    have hB3 := hB2.out.trans (hb3.mono hB2.out.size)
    have hz3 := hb3.size
    clear hb3 hcg hg1 hg2 hB2 hbits
    have hcg := blk_cell hg13
    replace hg13 := hide hg13
    replace hg23 := hide hg23
    replace hB3 := hide hB3
    simp only [if_true]
    go_upto_region 6 with fail
    have hcl := fun l : Later w3 => blk_cell (blk_below l.hb (by omega) hg13.out)
    have q := fun l : Later w3 => q1.out l.w
    clear hcg
    refine wp_region_L (by as_aux_lemma => kernel_rfl) ?_
    refine wpE_seg 0 4 (fuel := 4) (by as_aux_lemma => kernel_rfl) (fun d _ _ _ _ h => by cases d <;> exact h) (by as_aux_lemma => kernel_rfl) (by as_aux_lemma => kernel_rfl) ?_
    simp only [List.drop_zero, List.take_succ_cons, List.take_zero]
    iterate 4 (refine wpQE_step (fun K hK => ?_); go_simp; refine hK _ ?_; clear hK K)
    refine wpQE_nil ?_
    refine wpE_seg 4 2 (fuel := 2) (by as_aux_lemma => kernel_rfl) (fun d _ _ _ _ h => by cases d <;> exact h) (by as_aux_lemma => kernel_rfl) (by as_aux_lemma => kernel_rfl) ?_
    simp only [List.drop_succ_cons, List.drop_zero, List.take_succ_cons, List.take_zero]
    (refine wpQE_step (fun K hK => ?_); go_simp; apply Exists.intro; refine ⟨fun l => ?_, hK _ ?_⟩; (go_at_call 54; refine (q l).mono ?_; rintro e w' ⟨rfl, hb⟩; exact ⟨rfl, hb⟩); clear hK K)
    iterate 1 (refine wpQE_step (fun K hK => ?_); go_simp; refine hK _ ?_; clear hK K)
    refine wpQE_nil ?_
    clear hcl q
    refine wpE_end (by as_aux_lemma => kernel_rfl) (fun l2 => ?_)
    have hg14 := blk_below l2.hb (by omega) hg13.out
    have hg24 := blk_below l2.hb (by omega) hg23.out
    have hB4 := hB3.out.trans (l2.hb.mono hB3.out.size)
    have hz4 := l2.hb.size
    obtain ⟨w9, e9, hg9, g9⟩ := store_cell hg14 1 (.int .u64 (R1 : Int))
    have hg9 : w9.heap[w.heap.size]? = some (.cells #[.bool true, .int .u64 (R1 : Int), .int .u64 (lo : Int)] 24 (0, 0)) := hg9
    have c9 := blk_cell hg14 1
    have f9 := blk_free hg14 1
    replace hg9 := hide hg9
    replace g9 := hide g9
    replace hg24 := hide hg24
    replace hB4 := hide hB4
    replace hg14 := hide hg14
    refine wpT_step 6 rfl (by as_aux_lemma => kernel_rfl) (fun K hK => ?_)
    go_simp
    refine hK _ _ ?_
    clear hK K
    refine wpT_step 7 rfl (by as_aux_lemma => kernel_rfl) (fun K hK => ?_)
    go_simp
    refine hK _ _ ?_
    clear hK K
    refine wpT_done (by as_aux_lemma => kernel_rfl) ?_ 0
    have hr9 := grown_other g9.out (by omega) (by omega) hg24.out
    have hB9 : Below w.heap.size w w9 := hB4.out.trans (below_grown g9.out (by omega) (Nat.le_refl _))
    have hz9 := g9.out.size
    clear e9 c9 f9 g9 hg24 hB4 hg13 hg23 hB3 hg14
    replace hr9 := hide hr9
    replace hB9 := hide hB9
    go_upto_region 7 with fail
    have hcl := fun l : Later w9 => blk_cell (blk_below l.hb (by omega) hg9.out)
    have q := fun l : Later w9 => q2.out l.w
    refine wp_region_L (by as_aux_lemma => kernel_rfl) ?_
    refine wpE_seg 0 5 (fuel := 4) (by as_aux_lemma => kernel_rfl) (fun d _ _ _ _ h => by cases d <;> exact h) (by as_aux_lemma => kernel_rfl) (by as_aux_lemma => kernel_rfl) ?_
    simp only [List.drop_zero, List.take_succ_cons, List.take_zero]
    iterate 5 (refine wpQE_step (fun K hK => ?_); go_simp; refine hK _ ?_; clear hK K)
    refine wpQE_nil ?_
    refine wpE_seg 5 2 (fuel := 2) (by as_aux_lemma => kernel_rfl) (fun d _ _ _ _ h => by cases d <;> exact h) (by as_aux_lemma => kernel_rfl) (by as_aux_lemma => kernel_rfl) ?_
    simp only [List.drop_succ_cons, List.drop_zero, List.take_succ_cons, List.take_zero]
    (refine wpQE_step (fun K hK => ?_); go_simp; apply Exists.intro; refine ⟨fun l => ?_, hK _ ?_⟩; (go_at_call 54; refine (q l).mono ?_; rintro e w' ⟨rfl, hb⟩; exact ⟨rfl, hb⟩); clear hK K)
    iterate 1 (refine wpQE_step (fun K hK => ?_); go_simp; refine hK _ ?_; clear hK K)
    refine wpQE_nil ?_
    clear hcl q
    refine wpE_end (by as_aux_lemma => kernel_rfl) (fun l3 => ?_)
    have hg15 := blk_below l3.hb (by omega) hg9.out
    have hg25 := blk_below l3.hb (by omega) hr9.out
    have hB5 := hB9.out.trans (l3.hb.mono hB9.out.size)
    have hz5 := l3.hb.size
    obtain ⟨w10, e10, hg10, g10⟩ := store_cell hg15 2 (.int .u64 (R2 : Int))
    have hg10 : w10.heap[w.heap.size]? = some (.cells #[.bool true, .int .u64 (R1 : Int), .int .u64 (R2 : Int)] 24 (0, 0)) := hg10
    have c10 := blk_cell hg15 2
    have f10 := blk_free hg15 2
    replace hg10 := hide hg10
    replace g10 := hide g10
    replace hg25 := hide hg25
    replace hB5 := hide hB5
    replace hg15 := hide hg15
    refine wpT_step 7 rfl (by as_aux_lemma => kernel_rfl) (fun K hK => ?_)
    go_simp
    refine hK _ _ ?_
    clear hK K
    refine wpT_step 8 rfl (by as_aux_lemma => kernel_rfl) (fun K hK => ?_)
    go_simp
    refine hK _ _ ?_
    clear hK K
    refine wpT_done (by as_aux_lemma => kernel_rfl) ?_ 0
    have hr10 := grown_other g10.out (by omega) (by omega) hg25.out
    have hB10 : Below w.heap.size w w10 := hB5.out.trans (below_grown g10.out (by omega) (Nat.le_refl _))
    clear e10 c10 f10 g10 hg25 hB5 hr9 hB9 hg9 hg15
    replace hr10 := hide hr10
    replace hB10 := hide hB10
    go_upto_region 8 with fail
    apply wp_region_lit
    refine wpl_ld rfl 24 (.tmp 2) rfl w.heap.size rfl _ _ hg10.out Tryd.underlying24 rfl (by kernel_rfl) ?_
    refine wpl_st rfl 24 (.tmp 4) (.tmp 37) rfl (w.heap.size + 1) 0 rfl (#[.bool true, .int .u64 (R1 : Int), .int .u64 (R2 : Int)]) rfl hr10.out (by simp) (by kernel_rfl) (adr_one _ _ _) fun w9 hg9 g9 => ?_
    rw [putA_whole _ _ (by rfl)] at hg9
    have hb9 : Below (w.heap.size) w w9 := (hB10.out).trans (below_grown g9 (by have := (hB10.out).size; omega) (by omega))
    have hld : (loadVar 24 ⟨w.heap.size + 1, 0, none⟩).run Tryd.prog w9 = .ok (.agg (#[.bool true, .int .u64 (R1 : Int), .int .u64 (R2 : Int)])) w9 := by
      simpa using run_loadVar_mid w9 (w.heap.size + 1) 0 24 (#[.bool true, .int .u64 (R1 : Int), .int .u64 (R2 : Int)]).toList _ (blk_range hg9) Tryd.underlying24 rfl (by kernel_rfl)
    clear hg9 g9
    replace hld := hide hld
    replace hb9 := hide hb9
    refine wpList_nil ?_
    go_simp
    go_wp2_with fail
    exact bodyPost_ret (v := .agg #[.bool true, .int .u64 (R1 : Int), .int .u64 (R2 : Int)]) (by simp [results, Tryd.results30, asAddr, hld.out, Result.andThen]) rfl ⟨rfl, hb9.out⟩
end Addr05
end Go.Proofs.YtccmbnaakdffaaaDoor
/- pfx: Right: may a prefix be. Conditions: numbers of 64 bits. -/
namespace Go.Proofs.YtccmbnaakdffaaaDoor
open Go.RowKit Go.ChangeShapes Go.WideShapes Go.ChangeAt Go.Deep
namespace Addr05
/-- May a prefix be? -/
def rightP (a : Adr) (i : Int) : Bool := decide (0 ≤ i) && a.rightP i.toNat
theorem right_no1 (a : Adr) (i : Int) (h : rightB a.v6 a.hi a.lo = false) : rightP a i = false := by
  unfold rightP Adr.rightP
  rw [Bool.and_eq_false_iff]
  right
  rw [decide_eq_false_iff_not]
  rintro ⟨h1, -⟩
  rw [(rightB_iff a).2 h1] at h
  cases h
theorem right_no2 (a : Adr) (i : Int) (h : i < 0) : rightP a i = false := by
  unfold rightP
  rw [decide_eq_false (by omega)]
  rfl
theorem right_no3 (a : Adr) (i : Int) (h0 : 0 ≤ i) (h : (a.w : Int) < i) : rightP a i = false := by
  unfold rightP Adr.rightP
  rw [Bool.and_eq_false_iff]
  right
  rw [decide_eq_false_iff_not]
  rintro ⟨-, h1, -⟩
  omega
theorem right_is (a : Adr) (i : Int) (hb : rightB a.v6 a.hi a.lo = true) (h0 : 0 ≤ i) (h : i ≤ (a.w : Int)) : rightP a i = decide (a.mask (clampN a i) = a) := by
  have e : clampN a i = i.toNat := by unfold clampN; omega
  unfold rightP Adr.rightP
  rw [decide_eq_true h0, Bool.true_and, e, decide_eq_decide]
  exact ⟨fun h => h.2.2, fun h' => ⟨(rightB_iff a).1 hb, by omega, h'⟩⟩
def pArr (a : Adr) (i : Int) : Array Value := #[.bool a.v6, .int .u64 (a.hi : Int), .int .u64 (a.lo : Int), .int .i64 i]
set_option maxRecDepth 20000 in
set_option maxHeartbeats 8000000 in
theorem pRight_any (a : Adr) (ho : a.ok) (i : Int) (w : World) :
    Calls Tryd.prog 32 #[.agg (pArr a i)] w fun e w' => e = .returned (.bool (rightP a i)) ∧ Below w.heap.size w w' := by
  have hn1 := right_no1 a i
  have hn2 := right_no2 a i
  have hn3 := right_no3 a i
  have his := right_is a i
  have hMask := Mask_any a ho i
  have hmv := a.mask_v6 (clampN a i)
  have hw128 := a.w_le
  have hR := fun w => Right_any a.v6 a.hi a.lo w
  have hBits : ∀ w : World, Calls Tryd.prog 22 #[.agg #[.bool a.v6, .int .u64 (a.hi : Int), .int .u64 (a.lo : Int)]] w fun e w' => e = .returned (.int .i64 (a.w : Int)) ∧ Below w.heap.size w w' := by
    intro w
    have h := Bits_any a.v6 (a.hi : Int) (a.lo : Int) w
    have e : (if a.v6 = true then (128 : Int) else 32) = (a.w : Int) := by unfold Adr.w; split <;> rfl
    rwa [e] at h
  obtain ⟨W, hW⟩ : ∃ W, a.w = W := ⟨_, rfl⟩
  rw [hW] at hn3 his hBits hw128
  obtain ⟨⟨mv, mh, ml⟩, hM⟩ : ∃ M, a.mask (clampN a i) = M := ⟨_, rfl⟩
  rw [hM] at hMask his hmv
  obtain ⟨RP, hRP⟩ : ∃ x, rightP a i = x := ⟨_, rfl⟩
  rw [hRP] at hn1 hn2 hn3 his ⊢
  unfold pArr
  obtain ⟨v, hi, lo⟩ := a
  clear hW hM hRP ho
  dsimp only at hn1 hn2 hn3 his hMask hmv hR hBits ⊢
  subst hmv
  unfold Adr.arr at hMask
  dsimp only at hMask
  obtain ⟨w1, hw1⟩ : ∃ w1, w.alloc (.cells #[.bool mv, .int .u64 (hi : Int), .int .u64 (lo : Int), .int .i64 i] 45) = w1 := ⟨_, rfl⟩
  have hB : Below w.heap.size w w1 := hw1 ▸ (Below.refl _ _).alloc (Nat.le_refl _) _
  have hg : w1.heap[w.heap.size]? = some (.cells #[.bool mv, .int .u64 (hi : Int), .int .u64 (lo : Int), .int .i64 i] 45 (0, 0)) := hw1 ▸ blk_new _ _ _
  have hzw : w.heap.size < w1.heap.size := by rw [← hw1]; simp
  have hcl := fun l : Later w1 => blk_cell (blk_below l.hb hzw hg)
  obtain ⟨RB, hRB⟩ : ∃ x, rightB mv hi lo = x := ⟨_, rfl⟩
  rw [hRB] at hn1 his hR
  have q1 := fun l : Later w1 => hR l.w
  have q2 := fun l : Later w1 => hBits l.w
  have q3 := fun l : Later w1 => hMask l.w
  clear hRB hR hBits hMask
  replace hB := hide hB
  replace hg := hide hg
  replace q1 := hide q1
  replace q2 := hide q2
  replace q3 := hide q3
  cases RB
  · obtain rfl : RP = false := hn1 rfl
    clear hn1 hn2 hn3 his
    go_enter Tryd.func32, Tryd.ntmps32
    go_upto_region 1 with fail
    clear hw1
    refine wp_region_L (by as_aux_lemma => kernel_rfl) ?_
    refine wpE_seg 0 27 (fuel := 0) (by as_aux_lemma => kernel_rfl) (fun d _ _ _ _ h => by cases d <;> exact h) (by as_aux_lemma => kernel_rfl) (by as_aux_lemma => kernel_rfl) ?_
    simp only [List.drop_zero, List.take_succ_cons, List.take_zero]
    iterate 2 (refine wpQE_step (fun K hK => ?_); go_simp; refine hK _ ?_; clear hK K)
    (refine wpQE_step (fun K hK => ?_); go_simp; apply Exists.intro; refine ⟨fun l => ?_, hK _ ?_⟩; (go_at_call 16; refine (q1.out l).mono ?_; rintro e w' ⟨rfl, hb⟩; exact ⟨rfl, hb⟩); clear hK K)
    refine wpQE_val_skip (.bool false) 3 rfl (fun l => rfl) (by as_aux_lemma => kernel_rfl) ?_
    dsimp only [putU, List.take_succ_cons, List.take_zero, List.drop_succ_cons, List.drop_zero, Act.put]
    iterate 1 (refine wpQE_step (fun K hK => ?_); go_simp; refine hK _ ?_; clear hK K)
    refine wpQE_val_skip (.bool false) 6 rfl (fun l => rfl) (by as_aux_lemma => kernel_rfl) ?_
    dsimp only [putU, List.take_succ_cons, List.take_zero, List.drop_succ_cons, List.drop_zero, Act.put]
    iterate 1 (refine wpQE_step (fun K hK => ?_); go_simp; refine hK _ ?_; clear hK K)
    refine wpQE_val_skip (.bool false) 8 rfl (fun l => rfl) (by as_aux_lemma => kernel_rfl) ?_
    dsimp only [putU, List.take_succ_cons, List.take_zero, List.drop_succ_cons, List.drop_zero, Act.put]
    iterate 2 (refine wpQE_step (fun K hK => ?_); go_simp; refine hK _ ?_; clear hK K)
    refine wpQE_nil ?_
    refine wpE_done (by as_aux_lemma => kernel_rfl) (fun w2 hb2 => ?_) 0
    clear hcl
    have hB2 := hB.out.trans (hb2.mono hB.out.size)
    clear hb2
    replace hB2 := hide hB2
    go_wp2_with fail
    go_ret
    exact ⟨rfl, hB2.out⟩
  by_cases h0 : i < 0
  · obtain rfl : RP = false := hn2 h0
    have t1 : decide (0 ≤ i) = false := by rw [decide_eq_false_iff_not]; omega
    have t2 : ¬ 0 ≤ i := by omega
    clear hn1 hn2 hn3 his
    replace h0 := hide h0
    go_enter Tryd.func32, Tryd.ntmps32
    go_upto_region 1 with fail
    clear hw1
    refine wp_region_L (by as_aux_lemma => kernel_rfl) ?_
    refine wpE_seg 0 27 (fuel := 0) (by as_aux_lemma => kernel_rfl) (fun d _ _ _ _ h => by cases d <;> exact h) (by as_aux_lemma => kernel_rfl) (by as_aux_lemma => kernel_rfl) ?_
    simp only [List.drop_zero, List.take_succ_cons, List.take_zero]
    iterate 2 (refine wpQE_step (fun K hK => ?_); go_simp; refine hK _ ?_; clear hK K)
    (refine wpQE_step (fun K hK => ?_); go_simp; apply Exists.intro; refine ⟨fun l => ?_, hK _ ?_⟩; (go_at_call 16; refine (q1.out l).mono ?_; rintro e w' ⟨rfl, hb⟩; exact ⟨rfl, hb⟩); clear hK K)
    iterate 4 (refine wpQE_step (fun K hK => ?_); go_simp; refine hK _ ?_; clear hK K)
    iterate 1 (refine wpQE_step (fun K hK => ?_); go_simp; refine hK _ ?_; clear hK K)
    refine wpQE_val_skip (.bool false) 6 rfl (fun l => rfl) (by as_aux_lemma => kernel_rfl) ?_
    dsimp only [putU, List.take_succ_cons, List.take_zero, List.drop_succ_cons, List.drop_zero, Act.put]
    iterate 1 (refine wpQE_step (fun K hK => ?_); go_simp; refine hK _ ?_; clear hK K)
    refine wpQE_val_skip (.bool false) 8 rfl (fun l => rfl) (by as_aux_lemma => kernel_rfl) ?_
    dsimp only [putU, List.take_succ_cons, List.take_zero, List.drop_succ_cons, List.drop_zero, Act.put]
    iterate 2 (refine wpQE_step (fun K hK => ?_); go_simp; refine hK _ ?_; clear hK K)
    refine wpQE_nil ?_
    refine wpE_done (by as_aux_lemma => kernel_rfl) (fun w2 hb2 => ?_) 0
    clear hcl
    have hB2 := hB.out.trans (hb2.mono hB.out.size)
    clear hb2
    replace hB2 := hide hB2
    go_wp2_with fail
    go_ret
    exact ⟨rfl, hB2.out⟩
  have h0' : 0 ≤ i := by omega
  have t1 : decide (0 ≤ i) = true := decide_eq_true h0'
  by_cases hw : (W : Int) < i
  · obtain rfl : RP = false := hn3 h0' hw
    have t2 : decide (i ≤ (W : Int)) = false := by rw [decide_eq_false_iff_not]; omega
    have t3 : ¬ i ≤ (W : Int) := by omega
    clear hn1 hn2 hn3 his
    replace h0 := hide h0
    replace hw := hide hw
    go_enter Tryd.func32, Tryd.ntmps32
    go_upto_region 1 with fail
    clear hw1
    refine wp_region_L (by as_aux_lemma => kernel_rfl) ?_
    refine wpE_seg 0 27 (fuel := 0) (by as_aux_lemma => kernel_rfl) (fun d _ _ _ _ h => by cases d <;> exact h) (by as_aux_lemma => kernel_rfl) (by as_aux_lemma => kernel_rfl) ?_
    simp only [List.drop_zero, List.take_succ_cons, List.take_zero]
    iterate 2 (refine wpQE_step (fun K hK => ?_); go_simp; refine hK _ ?_; clear hK K)
    (refine wpQE_step (fun K hK => ?_); go_simp; apply Exists.intro; refine ⟨fun l => ?_, hK _ ?_⟩; (go_at_call 16; refine (q1.out l).mono ?_; rintro e w' ⟨rfl, hb⟩; exact ⟨rfl, hb⟩); clear hK K)
    iterate 4 (refine wpQE_step (fun K hK => ?_); go_simp; refine hK _ ?_; clear hK K)
    iterate 1 (refine wpQE_step (fun K hK => ?_); go_simp; refine hK _ ?_; clear hK K)
    iterate 5 (refine wpQE_step (fun K hK => ?_); go_simp; refine hK _ ?_; clear hK K)
    (refine wpQE_step (fun K hK => ?_); go_simp; apply Exists.intro; refine ⟨fun l => ?_, hK _ ?_⟩; (go_at_call 22; refine (q2.out l).mono ?_; rintro e w' ⟨rfl, hb⟩; exact ⟨rfl, hb⟩); clear hK K)
    iterate 2 (refine wpQE_step (fun K hK => ?_); go_simp; refine hK _ ?_; clear hK K)
    refine wpQE_val_skip (.bool false) 8 rfl (fun l => rfl) (by as_aux_lemma => kernel_rfl) ?_
    dsimp only [putU, List.take_succ_cons, List.take_zero, List.drop_succ_cons, List.drop_zero, Act.put]
    iterate 2 (refine wpQE_step (fun K hK => ?_); go_simp; refine hK _ ?_; clear hK K)
    refine wpQE_nil ?_
    refine wpE_done (by as_aux_lemma => kernel_rfl) (fun w2 hb2 => ?_) 0
    clear hcl
    have hB2 := hB.out.trans (hb2.mono hB.out.size)
    clear hb2
    replace hB2 := hide hB2
    go_wp2_with fail
    go_ret
    exact ⟨rfl, hB2.out⟩
  have hw' : i ≤ (W : Int) := by omega
  have t2 : decide (i ≤ (W : Int)) = true := decide_eq_true hw'
  have hfin := his rfl h0' hw'
  clear hn1 hn2 hn3 his
  by_cases e1 : mh = hi
  · subst e1
    by_cases e2 : ml = lo
    · subst e2
      rw [decide_eq_true rfl] at hfin
      subst hfin
      replace h0 := hide h0
      replace hw := hide hw
      go_enter Tryd.func32, Tryd.ntmps32
      go_upto_region 1 with fail
      clear hw1
      refine wp_region_L (by as_aux_lemma => kernel_rfl) ?_
      refine wpE_seg 0 27 (fuel := 0) (by as_aux_lemma => kernel_rfl) (fun d _ _ _ _ h => by cases d <;> exact h) (by as_aux_lemma => kernel_rfl) (by as_aux_lemma => kernel_rfl) ?_
      simp only [List.drop_zero, List.take_succ_cons, List.take_zero]
      iterate 2 (refine wpQE_step (fun K hK => ?_); go_simp; refine hK _ ?_; clear hK K)
      (refine wpQE_step (fun K hK => ?_); go_simp; apply Exists.intro; refine ⟨fun l => ?_, hK _ ?_⟩; (go_at_call 16; refine (q1.out l).mono ?_; rintro e w' ⟨rfl, hb⟩; exact ⟨rfl, hb⟩); clear hK K)
      iterate 4 (refine wpQE_step (fun K hK => ?_); go_simp; refine hK _ ?_; clear hK K)
      iterate 1 (refine wpQE_step (fun K hK => ?_); go_simp; refine hK _ ?_; clear hK K)
      iterate 5 (refine wpQE_step (fun K hK => ?_); go_simp; refine hK _ ?_; clear hK K)
      (refine wpQE_step (fun K hK => ?_); go_simp; apply Exists.intro; refine ⟨fun l => ?_, hK _ ?_⟩; (go_at_call 22; refine (q2.out l).mono ?_; rintro e w' ⟨rfl, hb⟩; exact ⟨rfl, hb⟩); clear hK K)
      iterate 2 (refine wpQE_step (fun K hK => ?_); go_simp; refine hK _ ?_; clear hK K)
      iterate 5 (refine wpQE_step (fun K hK => ?_); go_simp; refine hK _ ?_; clear hK K)
      (refine wpQE_step (fun K hK => ?_); go_simp; apply Exists.intro; refine ⟨fun l => ?_, hK _ ?_⟩; (go_at_call 30; refine (q3.out l).mono ?_; rintro e w' ⟨rfl, hb⟩; exact ⟨rfl, hb⟩); clear hK K)
      iterate 5 (refine wpQE_step (fun K hK => ?_); go_simp; refine hK _ ?_; clear hK K)
      refine wpQE_nil ?_
      refine wpE_done (by as_aux_lemma => kernel_rfl) (fun w2 hb2 => ?_) 0
      clear hcl
      have hB2 := hB.out.trans (hb2.mono hB.out.size)
      clear hb2
      replace hB2 := hide hB2
      go_wp2_with fail
      go_ret
      exact ⟨rfl, hB2.out⟩
    · have n2 : ¬ (ml : Int) = (lo : Int) := by omega
      rw [decide_eq_false (fun h => e2 (Adr.mk.inj h).2.2)] at hfin
      subst hfin
      replace h0 := hide h0
      replace hw := hide hw
      go_enter Tryd.func32, Tryd.ntmps32
      go_upto_region 1 with fail
      clear hw1
      refine wp_region_L (by as_aux_lemma => kernel_rfl) ?_
      refine wpE_seg 0 27 (fuel := 0) (by as_aux_lemma => kernel_rfl) (fun d _ _ _ _ h => by cases d <;> exact h) (by as_aux_lemma => kernel_rfl) (by as_aux_lemma => kernel_rfl) ?_
      simp only [List.drop_zero, List.take_succ_cons, List.take_zero]
      iterate 2 (refine wpQE_step (fun K hK => ?_); go_simp; refine hK _ ?_; clear hK K)
      (refine wpQE_step (fun K hK => ?_); go_simp; apply Exists.intro; refine ⟨fun l => ?_, hK _ ?_⟩; (go_at_call 16; refine (q1.out l).mono ?_; rintro e w' ⟨rfl, hb⟩; exact ⟨rfl, hb⟩); clear hK K)
      iterate 4 (refine wpQE_step (fun K hK => ?_); go_simp; refine hK _ ?_; clear hK K)
      iterate 1 (refine wpQE_step (fun K hK => ?_); go_simp; refine hK _ ?_; clear hK K)
      iterate 5 (refine wpQE_step (fun K hK => ?_); go_simp; refine hK _ ?_; clear hK K)
      (refine wpQE_step (fun K hK => ?_); go_simp; apply Exists.intro; refine ⟨fun l => ?_, hK _ ?_⟩; (go_at_call 22; refine (q2.out l).mono ?_; rintro e w' ⟨rfl, hb⟩; exact ⟨rfl, hb⟩); clear hK K)
      iterate 2 (refine wpQE_step (fun K hK => ?_); go_simp; refine hK _ ?_; clear hK K)
      iterate 5 (refine wpQE_step (fun K hK => ?_); go_simp; refine hK _ ?_; clear hK K)
      (refine wpQE_step (fun K hK => ?_); go_simp; apply Exists.intro; refine ⟨fun l => ?_, hK _ ?_⟩; (go_at_call 30; refine (q3.out l).mono ?_; rintro e w' ⟨rfl, hb⟩; exact ⟨rfl, hb⟩); clear hK K)
      iterate 5 (refine wpQE_step (fun K hK => ?_); go_simp; refine hK _ ?_; clear hK K)
      refine wpQE_nil ?_
      refine wpE_done (by as_aux_lemma => kernel_rfl) (fun w2 hb2 => ?_) 0
      clear hcl
      have hB2 := hB.out.trans (hb2.mono hB.out.size)
      clear hb2
      replace hB2 := hide hB2
      go_wp2_with fail
      go_ret
      exact ⟨rfl, hB2.out⟩
  · have n1 : ¬ (mh : Int) = (hi : Int) := by omega
    rw [decide_eq_false (fun h => e1 (Adr.mk.inj h).2.1)] at hfin
    subst hfin
    replace h0 := hide h0
    replace hw := hide hw
    go_enter Tryd.func32, Tryd.ntmps32
    go_upto_region 1 with fail
    clear hw1
    refine wp_region_L (by as_aux_lemma => kernel_rfl) ?_
    refine wpE_seg 0 27 (fuel := 0) (by as_aux_lemma => kernel_rfl) (fun d _ _ _ _ h => by cases d <;> exact h) (by as_aux_lemma => kernel_rfl) (by as_aux_lemma => kernel_rfl) ?_
    simp only [List.drop_zero, List.take_succ_cons, List.take_zero]
    iterate 2 (refine wpQE_step (fun K hK => ?_); go_simp; refine hK _ ?_; clear hK K)
    (refine wpQE_step (fun K hK => ?_); go_simp; apply Exists.intro; refine ⟨fun l => ?_, hK _ ?_⟩; (go_at_call 16; refine (q1.out l).mono ?_; rintro e w' ⟨rfl, hb⟩; exact ⟨rfl, hb⟩); clear hK K)
    iterate 4 (refine wpQE_step (fun K hK => ?_); go_simp; refine hK _ ?_; clear hK K)
    iterate 1 (refine wpQE_step (fun K hK => ?_); go_simp; refine hK _ ?_; clear hK K)
    iterate 5 (refine wpQE_step (fun K hK => ?_); go_simp; refine hK _ ?_; clear hK K)
    (refine wpQE_step (fun K hK => ?_); go_simp; apply Exists.intro; refine ⟨fun l => ?_, hK _ ?_⟩; (go_at_call 22; refine (q2.out l).mono ?_; rintro e w' ⟨rfl, hb⟩; exact ⟨rfl, hb⟩); clear hK K)
    iterate 2 (refine wpQE_step (fun K hK => ?_); go_simp; refine hK _ ?_; clear hK K)
    iterate 5 (refine wpQE_step (fun K hK => ?_); go_simp; refine hK _ ?_; clear hK K)
    (refine wpQE_step (fun K hK => ?_); go_simp; apply Exists.intro; refine ⟨fun l => ?_, hK _ ?_⟩; (go_at_call 30; refine (q3.out l).mono ?_; rintro e w' ⟨rfl, hb⟩; exact ⟨rfl, hb⟩); clear hK K)
    iterate 5 (refine wpQE_step (fun K hK => ?_); go_simp; refine hK _ ?_; clear hK K)
    refine wpQE_nil ?_
    refine wpE_done (by as_aux_lemma => kernel_rfl) (fun w2 hb2 => ?_) 0
    clear hcl
    have hB2 := hB.out.trans (hb2.mono hB.out.size)
    clear hb2
    replace hB2 := hide hB2
    go_wp2_with fail
    go_ret
    exact ⟨rfl, hB2.out⟩
end Addr05
end Go.Proofs.YtccmbnaakdffaaaDoor
/- pfx: Text: a prefix as a text. Conditions: numbers of 64 bits. -/
namespace Go.Proofs.YtccmbnaakdffaaaDoor
open Go.RowKit Go.ChangeShapes Go.WideShapes Go.ChangeAt Go.Deep
namespace Addr05
set_option maxRecDepth 20000 in
set_option maxHeartbeats 4000000 in
theorem pText_any (a : Adr) (ho : a.ok) (i : Int) (w : World) :
    Calls Tryd.prog 27 #[.agg (pArr a i)] w fun e w' => e = .returned (.string (str (textP a (min (max i 0) 128).toNat))) ∧ Below w.heap.size w w' := by
  have hT := fun w => text_any a.v6 a.hi a.lo ho.1 ho.2 w
  have hlen := textA_len a
  have hN := pnum_any i
  have hnl := dig10_len (min (max i 0) 128).toNat (by omega)
  unfold textP
  unfold textA at hlen ⊢
  obtain ⟨T, hTe⟩ : ∃ x, textL a.v6 a.hi a.lo = x := ⟨_, rfl⟩
  obtain ⟨D, hDe⟩ : ∃ x, digL 10 (min (max i 0) 128).toNat = x := ⟨_, rfl⟩
  rw [hTe] at hT hlen ⊢
  rw [hDe] at hN hnl ⊢
  clear hTe hDe
  obtain ⟨T1, h1⟩ : ∃ x, T ++ [47] = x := ⟨_, rfl⟩
  obtain ⟨T2, h2⟩ : ∃ x, T1 ++ D = x := ⟨_, rfl⟩
  have hfin : T ++ 47 :: D = T2 := by rw [← h2, ← h1]; simp
  rw [hfin]
  have c1 : str T ++ ByteArray.mk #[47] = str T1 := by rw [← h1]; exact str_append T [47]
  have c2 : str T1 ++ str D = str T2 := by rw [← h2]; exact str_append _ _
  have l1 : (str T1).size = T.length + 1 := by rw [size_str, ← h1]; simp
  have z1 : ¬ 9223372036854775807 < (str T).size + 1 := by rw [size_str]; omega
  have z2 : ¬ 9223372036854775807 < (str T1).size + (str D).size := by rw [l1, size_str D]; omega
  unfold pArr
  obtain ⟨v, hi, lo⟩ := a
  dsimp only at hT ⊢
  obtain ⟨w1, hw1⟩ : ∃ w1, w.alloc (.cells #[.bool v, .int .u64 (hi : Int), .int .u64 (lo : Int), .int .i64 i] 45) = w1 := ⟨_, rfl⟩
  have hB : Below w.heap.size w w1 := hw1 ▸ (Below.refl _ _).alloc (Nat.le_refl _) _
  have hg : w1.heap[w.heap.size]? = some (.cells #[.bool v, .int .u64 (hi : Int), .int .u64 (lo : Int), .int .i64 i] 45 (0, 0)) := hw1 ▸ blk_new _ _ _
  have hzw : w.heap.size < w1.heap.size := by rw [← hw1]; simp
  have hcl := fun l : Later w1 => blk_cell (blk_below l.hb hzw hg)
  have q1 := fun l : Later w1 => hT l.w
  have q2 := fun l : Later w1 => hN l.w
  clear hT hN l1 h1 h2 hfin ho
  replace hB := hide hB
  replace hg := hide hg
  replace q1 := hide q1
  replace q2 := hide q2
  go_enter Tryd.func27, Tryd.ntmps27
  go_upto_region 1 with fail
  clear hw1
  refine wp_region_L (by as_aux_lemma => kernel_rfl) ?_
  refine wpE_seg 0 9 (fuel := 0) (by as_aux_lemma => kernel_rfl) (fun d _ _ _ _ h => by cases d <;> exact h) (by as_aux_lemma => kernel_rfl) (by as_aux_lemma => kernel_rfl) ?_
  simp only [List.drop_zero, List.take_succ_cons, List.take_zero]
  iterate 2 (refine wpQE_step (fun K hK => ?_); go_simp; refine hK _ ?_; clear hK K)
  (refine wpQE_step (fun K hK => ?_); go_simp; apply Exists.intro; refine ⟨fun l => ?_, hK _ ?_⟩; (go_at_call 15; refine (q1.out l).mono ?_; rintro e w' ⟨rfl, hb⟩; exact ⟨rfl, hb⟩); clear hK K)
  iterate 3 (refine wpQE_step (fun K hK => ?_); go_simp; refine hK _ ?_; clear hK K)
  (refine wpQE_step (fun K hK => ?_); go_simp; apply Exists.intro; refine ⟨fun l => ?_, hK _ ?_⟩; (go_at_call 53; refine (q2.out l).mono ?_; rintro e w' ⟨rfl, hb⟩; exact ⟨rfl, hb⟩); clear hK K)
  iterate 2 (refine wpQE_step (fun K hK => ?_); go_simp; refine hK _ ?_; clear hK K)
  refine wpQE_nil ?_
  refine wpE_done (by as_aux_lemma => kernel_rfl) (fun w2 hb2 => ?_) 0
  have hB2 := hB.out.trans (hb2.mono hB.out.size)
  clear hb2 hcl
  replace hB2 := hide hB2
  go_wp2_with fail
  go_ret
  exact ⟨rfl, hB2.out⟩
end Addr05
end Go.Proofs.YtccmbnaakdffaaaDoor
/- pfx: the law's text of a prefix. Conditions: numbers of 64 bits, at most 128 bits. -/
namespace Go.Proofs.YtccmbnaakdffaaaDoor
open Go.RowKit Go.ChangeShapes Go.WideShapes Go.ChangeAt Go.Deep
namespace Addr05
theorem dec_slice : ∀ (d : Nat), d < 10 → (ByteArray.mk #[48, 49, 50, 51, 52, 53, 54, 55, 56, 57]).extract d (d + 1) = str [hexC d] := by decide
set_option maxRecDepth 20000 in
set_option maxHeartbeats 4000000 in
theorem pltext_any (a : Adr) (ho : a.ok) (n : Nat) (hn : n ≤ 128) (w : World) :
    Calls Tryd.prog 28 #[.agg (pArr a (n : Int))] w fun e w' => e = .returned (.string (str (textP a n))) ∧ Below w.heap.size w w' := by
  have hT := fun w => text_any a.v6 a.hi a.lo ho.1 ho.2 w
  have hlen := textA_len a
  have hnl := dig10_len n (by omega)
  unfold textP
  unfold textA at hlen ⊢
  obtain ⟨T, hTe⟩ : ∃ x, textL a.v6 a.hi a.lo = x := ⟨_, rfl⟩
  obtain ⟨D, hDe⟩ : ∃ x, digL 10 n = x := ⟨_, rfl⟩
  rw [hTe] at hT hlen ⊢
  rw [hDe] at hnl ⊢
  clear hTe
  obtain ⟨T1, h1⟩ : ∃ x, T ++ [47] = x := ⟨_, rfl⟩
  obtain ⟨T2, h2⟩ : ∃ x, T1 ++ D = x := ⟨_, rfl⟩
  have hfin : T ++ 47 :: D = T2 := by rw [← h2, ← h1]; simp
  rw [hfin]
  have c1 : str T ++ ByteArray.mk #[47] = str T1 := by rw [← h1]; exact str_append T [47]
  have c2 : str T1 ++ str D = str T2 := by rw [← h2]; exact str_append _ _
  have l1 : (str T1).size = T.length + 1 := by rw [size_str, ← h1]; simp
  have z1 : ¬ 9223372036854775807 < (str T).size + 1 := by rw [size_str]; omega
  have z2 : ¬ 9223372036854775807 < (str T1).size + (str D).size := by rw [l1, size_str D]; omega
  unfold pArr
  obtain ⟨v, hi, lo⟩ := a
  dsimp only at hT ⊢
  obtain ⟨w1, hw1⟩ : ∃ w1, w.alloc (.cells #[.bool v, .int .u64 (hi : Int), .int .u64 (lo : Int), .int .i64 (n : Int)] 45) = w1 := ⟨_, rfl⟩
  have hB : Below w.heap.size w w1 := hw1 ▸ (Below.refl _ _).alloc (Nat.le_refl _) _
  have hg : w1.heap[w.heap.size]? = some (.cells #[.bool v, .int .u64 (hi : Int), .int .u64 (lo : Int), .int .i64 (n : Int)] 45 (0, 0)) := hw1 ▸ blk_new _ _ _
  have hcg := blk_cell hg
  have hTw := hT w1
  clear hT l1 h1 h2 hfin ho
  replace hB := hide hB
  replace hg := hide hg
  replace hTw := hide hTw
  replace c1 := hide c1
  replace c2 := hide c2
  replace z1 := hide z1
  replace z2 := hide z2
  replace hDe := hide hDe
  go_enter Tryd.func28, Tryd.ntmps28
  go_wp2_with fail
  clear hw1
  go_loopw [3, 4, 5] (fun sv nv iv wr => ∃ (j m : Nat) (acc : List UInt8), j ≤ 3 ∧ nv = .int .i64 (m : Int) ∧ m ≤ n ∧ iv = .int .i64 (j : Int) ∧ sv = .string (str acc) ∧ acc.length = j ∧ m < 10 ^ (3 - j) ∧ (if j = 0 ∨ m ≠ 0 then digF 10 (20 - j) m ++ acc else acc) = D ∧ w1 = wr) (fun _ _ iv _ => 3 - (intOf iv).toNat)
  case atStart => exact ⟨0, n, [], by omega, rfl, Nat.le_refl _, rfl, rfl, rfl, by omega, by rw [← hDe.out]; simp [digL], rfl⟩
  case round =>
    obtain ⟨j, m, acc, hj, rfl, hmn, rfl, rfl, hal, hm, hd, rfl⟩ := hrel
    obtain ⟨d, hdd⟩ : ∃ d, m % 10 = d := ⟨_, rfl⟩
    have hd10 : d < 10 := by omega
    obtain ⟨q, hq⟩ : ∃ q, m / 10 = q := ⟨_, rfl⟩
    have d1 : (m : Int) % 10 = (d : Int) := by omega
    have d2 : Int.tmod (m : Int) 10 = (d : Int) := by rw [Int.tmod_eq_emod_of_nonneg (by omega)]; omega
    have q1 : (m : Int) / 10 = (q : Int) := by omega
    have q2 : Int.tdiv (m : Int) 10 = (q : Int) := by rw [Int.tdiv_eq_ediv_of_nonneg (by omega)]; omega
    have i1 : (0 : Int) ≤ (d : Int) := by omega
    have wq : IntKind.i64.wrap (q : Int) = (q : Int) := wraps62 _ (by omega) (by omega)
    have hsl := dec_slice d hd10
    obtain ⟨d1', hd1⟩ : ∃ x, d + 1 = x := ⟨_, rfl⟩
    rw [hd1] at hsl
    have wd : IntKind.i64.wrap ((d : Int) + 1) = (d1' : Int) := by rw [wraps62 _ (by omega) (by omega)]; omega
    have i3 : d1' ≤ 10 := by omega
    have i4 : d ≤ d1' := by omega
    have i5 : (d1' : Int) ≤ 10 := by omega
    replace hd1 := hide hd1
    replace hd := hide hd
    replace hdd := hide hdd
    replace hq := hide hq
    obtain ⟨t, ht⟩ : ∃ t, hexC d :: acc = t := ⟨_, rfl⟩
    have hcat : str [hexC d] ++ str acc = str t := by rw [str_append, ← ht]; rfl
    have hss : ¬ 9223372036854775807 < (str [hexC d]).size + (str acc).size := by
      have e1 : (str [hexC d]).size = 1 := rfl
      have e2 : (str acc).size = acc.length := List.size_toArray
      omega
    replace ht := hide ht
    replace hal := hide hal
    have key : (j = 0 ∨ m ≠ 0) → j < 3 → q ≤ m ∧ q < 10 ^ (2 - j) ∧ (if q ≠ 0 then digF 10 (19 - j) q ++ t else t) = D := by
      intro h0 h1
      have h2 := hd.out
      rw [if_pos h0] at h2
      have e2 : 20 - j = (19 - j) + 1 := by omega
      have e3 : 3 - j = (2 - j) + 1 := by omega
      have hqq := hq.out
      rw [e2] at h2
      rw [e3, Nat.pow_succ] at hm
      refine ⟨by omega, by rw [← hqq]; exact Nat.div_lt_of_lt_mul (by rw [Nat.mul_comm]; exact hm), ?_⟩
      by_cases hz : q = 0
      · have hlt : m < 10 := by omega
        have hdd2 := hdd.out
        rw [Nat.mod_eq_of_lt hlt] at hdd2
        rw [if_neg (by omega), ← h2, digF_lt hlt, ← ht.out, hdd2]; rfl
      · have hge : ¬ m < 10 := by omega
        rw [if_pos hz, ← h2, digF_ge hge, hqq, hdd.out, ← ht.out, List.append_assoc]; rfl
    have hlt : m ≠ 0 → j < 3 := by
      intro h
      rcases Nat.lt_or_ge j 3 with h1 | h1
      · exact h1
      · have e : j = 3 := by omega
        rw [e] at hm
        exact absurd (by simpa using hm) h
    have fin : j ≠ 0 → m = 0 → acc = D := by
      intro h0 h1
      have h2 := hd.out
      rwa [if_neg (by omega)] at h2
    replace key := hide key
    replace hlt := hide hlt
    replace fin := hide fin
    replace hm := hide hm
    have stop : j ≠ 0 → m = 0 → acc = D := fin.out
    clear fin
    have goOn : ∀ b : Bool, decide ((j : Int) < 3) = b → True := fun _ _ => trivial
    clear goOn
    by_cases hc1 : j = 3
    · have t1 : ((j : Int) < 3) = False := by rw [eq_iff_iff, iff_false]; omega
      have hm0 : m = 0 := by
        rcases Nat.eq_zero_or_pos m with h | h
        · exact h
        · have := hlt.out (by omega); omega
      obtain rfl : acc = D := stop (by omega) hm0
      replace stop := hide stop
      replace hc1 := hide hc1
      replace hm0 := hide hm0
      have y1 := c1.out
      have y2 := c2.out
      have y3 := z1.out
      have y4 := z2.out
      clear hcat hss
      go_wp2_with fail
      refine hTw.out.mono ?_
      rintro e w5 ⟨rfl, hb5⟩
      have hB5 := hB.out.trans (hb5.mono hB.out.size)
      clear hb5 hcg
      replace hB5 := hide hB5
      go_wp2_with fail
      go_ret
      exact ⟨rfl, hB5.out⟩
    have t1 : (j : Int) < 3 := by omega
    have t3 : decide ((j : Int) < 3) = true := decide_eq_true t1
    by_cases hc2 : j = 0
    · have t2 : ((j : Int) == 0) = true := by rw [hc2]; rfl
      replace stop := hide stop
      go_wp2_with fail
      obtain ⟨k1, k2, k3⟩ := key.out (.inl hc2) (by omega)
      subst hc2
      refine ⟨⟨1, q, t, by omega, rfl, by omega, rfl, rfl, by rw [← ht.out, List.length_cons, hal.out], k2, ?_, by first | rfl | trivial⟩, by simp [intOf]⟩
      rw [← k3]; simp
    · have t2 : ((j : Int) == 0) = false := by rw [beq_eq_false_iff_ne]; omega
      by_cases hc3 : m = 0
      · obtain rfl : acc = D := stop hc2 hc3
        have t4 : ¬ 0 < m := by omega
        have t5 : ¬ (0 : Int) < (m : Int) := by omega
        clear q1 q2 d1 d2 wq i1 hsl wd i3 i4 i5
        replace stop := hide stop
        replace hc3 := hide hc3
        replace hc2 := hide hc2
        have y1 := c1.out
        have y2 := c2.out
        have y3 := z1.out
        have y4 := z2.out
        clear hcat hss
        go_wp2_with fail
        refine hTw.out.mono ?_
        rintro e w5 ⟨rfl, hb5⟩
        have hB5 := hB.out.trans (hb5.mono hB.out.size)
        clear hb5 hcg
        replace hB5 := hide hB5
        go_wp2_with fail
        go_ret
        exact ⟨rfl, hB5.out⟩
      · have t4 : decide ((0 : Int) < (m : Int)) = true := by rw [decide_eq_true_eq]; omega
        have hj3 := hlt.out hc3
        replace stop := hide stop
        go_wp2_with fail
        obtain ⟨k1, k2, k3⟩ := key.out (.inr hc3) hj3
        refine ⟨⟨j + 1, q, t, by omega, rfl, by omega, by first | rfl | go_num, rfl, by rw [← ht.out, List.length_cons, hal.out], by rw [show 3 - (j + 1) = 2 - j by omega]; exact k2, ?_, by first | rfl | trivial⟩, by simp only [intOf]; omega⟩
        rw [← k3, show 20 - (j + 1) = 19 - j by omega]; simp
end Addr05
end Go.Proofs.YtccmbnaakdffaaaDoor
