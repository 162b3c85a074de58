/- addr: Of, Bit: an address out of bytes; a bit of an address. Conditions: at most 2^40 bytes; numbers of 64 bits. -/
import Derived.Test.YtbcicbiphgeghaaDoorQConfParses8
import Derived.Test.YtbcicbiphgeghaaDoorQConfParses7
import Derived.Test.YtbcicbiphgeghaaDoorQConfParses2
namespace Go.Proofs.YtbcicbiphgeghaaDoor
open Go.RowKit Go.ChangeShapes Go.WideShapes Go.ChangeAt Go.Deep
/-- A struct is stored, at place o of a block: one operation. -/
theorem wp_st {P : Program} {op : Oper} {a : Act} {w : World} {K : Act → World → Prop} {Q : Exit → Act → World → Prop} (ty : TypeId) (x y : Operand) (ho : op.op = .store ty x y) (g o : Nat) (hx : a.eval x = .pointer (some ⟨g, o, none⟩)) (vs : Array Value) (hy : a.eval y = .agg vs)
    {cs : Array Value} {t : TypeId} (hc : w.heap[g]? = some (.cells cs t (0, 0))) (hn : o + vs.size ≤ cs.size) (hi : (P.info? ty).map (·.size) = some vs.size) (h1 : vs.all (·.oneCell') = true)
    (h : ∀ w', w'.heap[g]? = some (.cells (putA cs o vs.toList) t (0, 0)) → w.grownBy w' (some g) → K (a.put op.dst undef) w') : op.wp P a w K Q := by
  obtain ⟨w', e, h2, h3⟩ := stored_at (o := o) hc vs.toList (by simpa using hn)
  refine wp_store_mid ty x y ho g o vs hx hy (blk_there hc hn) hi h1 ?_
  rw [e]
  exact h w' h2 h3
namespace Addr05
def ofR (xs : List UInt8) : Option Adr := if xs.length = 4 then some ⟨false, 0, getN xs % 4294967296⟩ else if xs.length = 16 then some ⟨true, getN (xs.take 8), getN (xs.drop 8)⟩ else none
theorem u64_and1 (n : Nat) (hn : n < 18446744073709551616) (s : Nat) : bits .and .u64 ((n : Int) / 2 ^ s) 1 = ((n / 2 ^ s % 2 : Nat) : Int) := by
  have e : (n : Int) / 2 ^ s = ((n / 2 ^ s : Nat) : Int) := by push_cast; rfl
  have e2 : n / 2 ^ s ≤ n := Nat.div_le_self _ _
  rw [e]
  obtain ⟨q, hq⟩ : ∃ q, n / 2 ^ s = q := ⟨_, rfl⟩
  rw [hq] at e2 ⊢
  exact bits_mask .u64 64 (by decide) wrapsu64 1 (by decide) _ (by omega) (by omega)
def bitI (a : Adr) (i : Int) : Int := if 0 ≤ i then (a.bit i.toNat : Int) else 0
set_option maxRecDepth 20000 in
set_option maxHeartbeats 8000000 in
theorem Bit_any (a : Adr) (ho : a.ok) (i : Int) (h1 : -9223372036854775808 ≤ i) (h2 : i ≤ 9223372036854775807) (w : World) :
    Calls Tryd.prog 84 #[.agg #[.bool a.v6, .int .u64 (a.hi : Int), .int .u64 (a.lo : Int)], .int .i64 i] w fun e w' => e = .returned (.int .i64 (bitI a i)) ∧ Below w.heap.size w w' := by
  obtain ⟨v, hi, lo⟩ := a
  obtain ⟨hhi, hlo⟩ := ho
  dsimp only at hhi hlo ⊢
  obtain ⟨w1, hw1⟩ : ∃ w1, w.alloc (.cells #[.bool v, .int .u64 (hi : Int), .int .u64 (lo : Int)] 26) = w1 := ⟨_, rfl⟩
  have hB : Below w.heap.size w w1 := hw1 ▸ (Below.refl _ _).alloc (Nat.le_refl _) _
  have hg : w1.heap[w.heap.size]? = some (.cells #[.bool v, .int .u64 (hi : Int), .int .u64 (lo : Int)] 26 (0, 0)) := hw1 ▸ blk_new _ _ _
  have hzw : w.heap.size < w1.heap.size := by rw [← hw1]; simp
  by_cases hn : i < 0
  · have t1 : decide (i < 0) = true := by rw [decide_eq_true_eq]; omega
    have hR : bitI ⟨v, hi, lo⟩ i = 0 := by unfold bitI; rw [if_neg (by omega)]
    rw [hR]
    clear hR
    replace hg := hide hg
    replace hB := hide hB
    replace hn := hide hn
    go_enter Tryd.func84, Tryd.ntmps84
    go_wp2_with fail
    go_ret
    exact ⟨rfl, hB.out⟩
  have t1 : decide (i < 0) = false := by rw [decide_eq_false_iff_not]; omega
  obtain ⟨k, rfl⟩ : ∃ k : Nat, i = (k : Int) := ⟨i.toNat, by omega⟩
  have hbits := Bits_any v (hi : Int) (lo : Int) w1
  have hcg := blk_cell hg
  have fin : ∀ W : Int, (if v = true then (128 : Int) else 32) = W → (∀ w2 : World, Below w1.heap.size w1 w2 → True) := fun _ _ _ _ => trivial
  clear fin
  cases v
  · have hbits' : Calls Tryd.prog 56 #[.agg #[.bool false, .int .u64 (hi : Int), .int .u64 (lo : Int)]] w1 fun e w' => e = .returned (.int .i64 32) ∧ Below w1.heap.size w1 w' := hbits
    clear hbits
    by_cases hk : k < 32
    · have t2 : decide ((32 : Int) ≤ (k : Int)) = false := by rw [decide_eq_false_iff_not]; omega
      have i1 : (0 : Int) ≤ (k : Int) := by omega
      obtain ⟨s, hs⟩ : ∃ s, 31 - k = s := ⟨_, rfl⟩
      have ws : IntKind.i64.wrap (31 - (k : Int)) = (s : Int) := by rw [wraps62 _ (by omega) (by omega)]; omega
      have i2 : (0 : Int) ≤ (s : Int) := by omega
      have min64 : min s 64 = s := by omega
      have ha := u64_and1 lo hlo s
      obtain ⟨y, hy⟩ : ∃ y, lo / 2 ^ s % 2 = y := ⟨_, rfl⟩
      rw [hy] at ha
      have wy : IntKind.i64.wrap (y : Int) = (y : Int) := wraps62 _ (by omega) (by omega)
      have hR : bitI ⟨false, hi, lo⟩ (k : Int) = (y : Int) := by
        unfold bitI Adr.bit Adr.w
        simp only [Int.toNat_natCast, i1, if_true, Bool.false_eq_true, if_false, show k < 32 from hk]
        rw [hs, hy]
      rw [hR]
      clear hR
      replace hs := hide hs
      replace hy := hide hy
      replace hg := hide hg
      replace hB := hide hB
      replace hk := hide hk
      replace hbits' := hide hbits'
      go_enter Tryd.func84, Tryd.ntmps84
      go_wp2_with fail
      clear hw1
      refine hbits'.out.mono ?_
      rintro e w2 ⟨rfl, hb2⟩
      have hg2 := blk_below hb2 hzw hg.out
      have hB2 := hB.out.trans (hb2.mono hB.out.size)
      clear hcg hg hB hb2 hbits'
      have hcg := blk_cell hg2
      replace hg2 := hide hg2
      replace hB2 := hide hB2
      go_wp2_with fail
      go_ret
      exact ⟨rfl, hB2.out⟩
    · have t2 : decide ((32 : Int) ≤ (k : Int)) = true := by rw [decide_eq_true_eq]; omega
      have hR : bitI ⟨false, hi, lo⟩ (k : Int) = 0 := by
        unfold bitI Adr.bit Adr.w
        rw [if_pos (by omega), Int.toNat_natCast, if_neg (by simpa using hk)]
        rfl
      rw [hR]
      clear hR
      replace hk := hide hk
      replace hbits' := hide hbits'
      replace hg := hide hg
      replace hB := hide hB
      go_enter Tryd.func84, Tryd.ntmps84
      go_wp2_with fail
      clear hw1
      refine hbits'.out.mono ?_
      rintro e w2 ⟨rfl, hb2⟩
      have hB2 := hB.out.trans (hb2.mono hB.out.size)
      clear hcg hg hB hb2 hbits'
      replace hB2 := hide hB2
      go_wp2_with fail
      go_ret
      exact ⟨rfl, hB2.out⟩
  · have hbits' : Calls Tryd.prog 56 #[.agg #[.bool true, .int .u64 (hi : Int), .int .u64 (lo : Int)]] w1 fun e w' => e = .returned (.int .i64 128) ∧ Below w1.heap.size w1 w' := hbits
    clear hbits
    by_cases hk : k < 128
    · have t2 : decide ((128 : Int) ≤ (k : Int)) = false := by rw [decide_eq_false_iff_not]; omega
      by_cases hk2 : k < 64
      · have t3 : decide ((k : Int) < 64) = true := by rw [decide_eq_true_eq]; omega
        have i1 : (0 : Int) ≤ (k : Int) := by omega
        obtain ⟨s, hs⟩ : ∃ s, 63 - k = s := ⟨_, rfl⟩
        have ws : IntKind.i64.wrap (63 - (k : Int)) = (s : Int) := by rw [wraps62 _ (by omega) (by omega)]; omega
        have i2 : (0 : Int) ≤ (s : Int) := by omega
        have min64 : min s 64 = s := by omega
        have ha := u64_and1 hi hhi s
        obtain ⟨y, hy⟩ : ∃ y, hi / 2 ^ s % 2 = y := ⟨_, rfl⟩
        rw [hy] at ha
        have wy : IntKind.i64.wrap (y : Int) = (y : Int) := wraps62 _ (by omega) (by omega)
        have hR : bitI ⟨true, hi, lo⟩ (k : Int) = (y : Int) := by
          unfold bitI Adr.bit Adr.w
          simp only [Int.toNat_natCast, i1, if_true, Bool.false_eq_true, if_false, show k < 128 from hk, hk2]
          rw [hs, hy]
        rw [hR]
        clear hR
        replace hs := hide hs
        replace hy := hide hy
        replace hg := hide hg
        replace hB := hide hB
        replace hk := hide hk
        replace hk2 := hide hk2
        replace hbits' := hide hbits'
        go_enter Tryd.func84, Tryd.ntmps84
        go_wp2_with fail
        clear hw1
        refine hbits'.out.mono ?_
        rintro e w2 ⟨rfl, hb2⟩
        have hg2 := blk_below hb2 hzw hg.out
        have hB2 := hB.out.trans (hb2.mono hB.out.size)
        clear hcg hg hB hb2 hbits'
        have hcg := blk_cell hg2
        replace hg2 := hide hg2
        replace hB2 := hide hB2
        go_wp2_with fail
        go_ret
        exact ⟨rfl, hB2.out⟩
      · have t3 : decide ((k : Int) < 64) = false := by rw [decide_eq_false_iff_not]; omega
        have i1 : (0 : Int) ≤ (k : Int) := by omega
        obtain ⟨s, hs⟩ : ∃ s, 127 - k = s := ⟨_, rfl⟩
        have ws : IntKind.i64.wrap (127 - (k : Int)) = (s : Int) := by rw [wraps62 _ (by omega) (by omega)]; omega
        have i2 : (0 : Int) ≤ (s : Int) := by omega
        have min64 : min s 64 = s := by omega
        have ha := u64_and1 lo hlo s
        obtain ⟨y, hy⟩ : ∃ y, lo / 2 ^ s % 2 = y := ⟨_, rfl⟩
        rw [hy] at ha
        have wy : IntKind.i64.wrap (y : Int) = (y : Int) := wraps62 _ (by omega) (by omega)
        have hR : bitI ⟨true, hi, lo⟩ (k : Int) = (y : Int) := by
          unfold bitI Adr.bit Adr.w
          simp only [Int.toNat_natCast, i1, if_true, Bool.false_eq_true, if_false, show k < 128 from hk, hk2]
          rw [hs, hy]
        rw [hR]
        clear hR
        replace hs := hide hs
        replace hy := hide hy
        replace hg := hide hg
        replace hB := hide hB
        replace hk := hide hk
        replace hk2 := hide hk2
        replace hbits' := hide hbits'
        go_enter Tryd.func84, Tryd.ntmps84
        go_wp2_with fail
        clear hw1
        refine hbits'.out.mono ?_
        rintro e w2 ⟨rfl, hb2⟩
        have hg2 := blk_below hb2 hzw hg.out
        have hB2 := hB.out.trans (hb2.mono hB.out.size)
        clear hcg hg hB hb2 hbits'
        have hcg := blk_cell hg2
        replace hg2 := hide hg2
        replace hB2 := hide hB2
        go_wp2_with fail
        go_ret
        exact ⟨rfl, hB2.out⟩
    · have t2 : decide ((128 : Int) ≤ (k : Int)) = true := by rw [decide_eq_true_eq]; omega
      have hR : bitI ⟨true, hi, lo⟩ (k : Int) = 0 := by
        unfold bitI Adr.bit Adr.w
        rw [if_pos (by omega), Int.toNat_natCast, if_neg (by simpa using hk)]
        rfl
      rw [hR]
      clear hR
      replace hk := hide hk
      replace hbits' := hide hbits'
      replace hg := hide hg
      replace hB := hide hB
      go_enter Tryd.func84, Tryd.ntmps84
      go_wp2_with fail
      clear hw1
      refine hbits'.out.mono ?_
      rintro e w2 ⟨rfl, hb2⟩
      have hB2 := hB.out.trans (hb2.mono hB.out.size)
      clear hcg hg hB hb2 hbits'
      replace hB2 := hide hB2
      go_wp2_with fail
      go_ret
      exact ⟨rfl, hB2.out⟩
end Addr05
end Go.Proofs.YtbcicbiphgeghaaDoor
/- pfx: cut, Mask: an address with its last bits 0. Conditions: numbers of 64 bits. -/
namespace Go.Proofs.YtbcicbiphgeghaaDoor
open Go.RowKit Go.ChangeShapes Go.WideShapes Go.ChangeAt Go.Deep
namespace Addr05
theorem high_eq (k : Nat) (hk : k ≤ 64) : 18446744073709551616 - 2 ^ k = (2 ^ (64 - k) - 1) * 2 ^ k := by
  rw [Nat.sub_mul, Nat.one_mul, ← Nat.pow_add, show 64 - k + k = 64 by omega]
theorem and_high (a k : Nat) (ha : a < 18446744073709551616) (hk : k ≤ 64) : a &&& (18446744073709551616 - 2 ^ k) = mkB a k := by
  apply Nat.eq_of_testBit_eq
  intro j
  rw [Nat.testBit_and, testBit_mkB, high_eq k hk, ← Nat.shiftLeft_eq, Nat.testBit_shiftLeft, Nat.testBit_two_pow_sub_one]
  by_cases hkj : k ≤ j
  · by_cases hj : j < 64
    · simp [hkj, show j - k < 64 - k by omega]
    · rw [Nat.testBit_lt_two_pow (Nat.lt_of_lt_of_le ha (show 2 ^ 64 ≤ 2 ^ j from Nat.pow_le_pow_right (by omega) (by omega)))]
      simp
  · simp [hkj]
theorem u64_high (a k : Nat) (ha : a < 18446744073709551616) (hk : k ≤ 64) : bits .and .u64 (a : Int) ((18446744073709551616 - 2 ^ k : Nat) : Int) = ((mkB a k : Nat) : Int) := by
  have hp : 0 < 2 ^ k := Nat.two_pow_pos k
  rw [(bits_nat .u64 64 (by decide) wrapsu64 a (18446744073709551616 - 2 ^ k) ha (by omega)).1, and_high a k ha hk]
set_option maxRecDepth 20000 in
theorem pcut_any (b : Nat) (hb : b ≤ 64) (w : World) :
    Calls Tryd.prog 85 #[.int .i64 (b : Int)] w fun e w' => e = .returned (.int .u64 ((18446744073709551616 - 2 ^ (64 - b) : Nat) : Int)) ∧ w' = w := by
  by_cases h0 : b = 0
  · subst h0
    go_enter Tryd.func85, Tryd.ntmps85
    go_wp2_with fail
    go_ret
    exact ⟨rfl, rfl⟩
  · have t0 : ((b : Int) == 0) = false := by rw [beq_eq_false_iff_ne]; omega
    obtain ⟨s, hs⟩ : ∃ s, 64 - b = s := ⟨_, rfl⟩
    have ws : IntKind.i64.wrap (64 - (b : Int)) = (s : Int) := by rw [wraps62 _ (by omega) (by omega)]; omega
    have i1 : (0 : Int) ≤ (s : Int) := by omega
    have min64 : min s 64 = s := by omega
    have hw : IntKind.u64.wrap (18446744073709551615 * 2 ^ s) = ((18446744073709551616 - 2 ^ s : Nat) : Int) := by
      have h1 : 0 < 2 ^ s := Nat.two_pow_pos s
      have h2 : 2 ^ s ≤ 2 ^ 64 := Nat.pow_le_pow_right (by omega) (by omega)
      have e : ((2 : Int) ^ s) = ((2 ^ s : Nat) : Int) := by push_cast; rfl
      rw [IntKind.wrap_u64, e]
      obtain ⟨P, hP⟩ : ∃ P, 2 ^ s = P := ⟨_, rfl⟩
      rw [hP] at h1 h2 ⊢
      omega
    rw [hs, ← hw]
    replace hs := hide hs
    replace h0 := hide h0
    replace hw := hide hw
    go_enter Tryd.func85, Tryd.ntmps85
    go_wp2_with fail
    go_ret
    exact ⟨rfl, rfl⟩
def clampN (a : Adr) (i : Int) : Nat := (min (max i 0) (a.w : Int)).toNat
theorem pcut_bel (b : Nat) (hb : b ≤ 64) (w : World) :
    Calls Tryd.prog 85 #[.int .i64 (b : Int)] w fun e w' => e = .returned (.int .u64 ((18446744073709551616 - 2 ^ (64 - b) : Nat) : Int)) ∧ Below w.heap.size w w' :=
  (pcut_any b hb w).mono fun _ _ h => ⟨h.1, h.2 ▸ Below.refl _ _⟩
set_option maxRecDepth 20000 in
set_option maxHeartbeats 8000000 in
theorem Mask_any (a : Adr) (ho : a.ok) (i : Int) (w : World) :
    Calls Tryd.prog 57 #[.agg #[.bool a.v6, .int .u64 (a.hi : Int), .int .u64 (a.lo : Int)], .int .i64 i] w fun e w' => e = .returned (.agg (a.mask (clampN a i)).arr) ∧ Below w.heap.size w w' := by
  obtain ⟨v, hi, lo⟩ := a
  obtain ⟨hhi, hlo⟩ := ho
  dsimp only at hhi hlo ⊢
  obtain ⟨w1, hw1⟩ : ∃ w1, w.alloc (.cells #[.bool v, .int .u64 (hi : Int), .int .u64 (lo : Int)] 26) = w1 := ⟨_, rfl⟩
  have hg1 : w1.heap[w.heap.size]? = some (.cells #[.bool v, .int .u64 (hi : Int), .int .u64 (lo : Int)] 26 (0, 0)) := hw1 ▸ blk_new _ _ _
  have hz1 : w1.heap.size = w.heap.size + 1 := by rw [← hw1]; simp
  have hB1 : Below w.heap.size w w1 := hw1 ▸ (Below.refl _ _).alloc (Nat.le_refl _) _
  obtain ⟨w2, hw2⟩ : ∃ w2, w1.alloc (.cells #[.bool false, .int .u64 0, .int .u64 0] 26) = w2 := ⟨_, rfl⟩
  have hg2 : w2.heap[w1.heap.size]? = some (.cells #[.bool false, .int .u64 0, .int .u64 0] 26 (0, 0)) := hw2 ▸ blk_new _ _ _
  have hB2' : Below w1.heap.size w1 w2 := hw2 ▸ (Below.refl _ _).alloc (Nat.le_refl _) _
  have hz2 : w1.heap.size < w2.heap.size := by rw [← hw2]; simp
  rw [hz1] at hg2
  have hg1 := blk_below hB2' (by omega) hg1
  have hB2 := hB1.trans (hB2'.mono hB1.size)
  clear hB1 hB2'
  have hz : w.heap.size + 1 < w2.heap.size := by omega
  obtain ⟨m, hm⟩ : ∃ m : Nat, max i 0 = (m : Int) := ⟨(max i 0).toNat, by omega⟩
  have hcl : clampN ⟨v, hi, lo⟩ i = min m (Adr.w ⟨v, hi, lo⟩) := by unfold clampN; rw [hm]; omega
  rw [hcl]
  clear hcl
  cases v
  · obtain ⟨B, hBm⟩ : ∃ B, min m 32 = B := ⟨_, rfl⟩
    have hBi : min (m : Int) 32 = (B : Int) := by omega
    have hres : (Adr.mask ⟨false, hi, lo⟩ (min m (Adr.w ⟨false, hi, lo⟩))) = ⟨false, hi, mkB lo (32 - B)⟩ := by
      show Adr.mask ⟨false, hi, lo⟩ (min m 32) = _
      rw [hBm]; rfl
    rw [hres]
    unfold Adr.arr
    dsimp only
    obtain ⟨c, hc⟩ : ∃ c, B + 32 = c := ⟨_, rfl⟩
    have wc' : IntKind.i64.wrap ((B : Int) + 32) = (c : Int) := by rw [wraps62 _ (by omega) (by omega)]; omega
    have hbits := fun w => Bits_any false (hi : Int) (lo : Int) w
    have q1 := fun l => pcut_bel c (by omega) l
    have hand := u64_high lo (64 - c) hlo (by omega)
    rw [show 64 - c = 32 - B by omega] at hand
    have e1 : ∀ w : World, Calls Tryd.prog 85 #[.int .i64 (c : Int)] w fun e w' => e = .returned (.int .u64 ((18446744073709551616 - 2 ^ (32 - B) : Nat) : Int)) ∧ Below w.heap.size w w' := by
      intro w
      have := q1 w
      rwa [show 64 - c = 32 - B by omega] at this
    obtain ⟨H, hH⟩ : ∃ H, 18446744073709551616 - 2 ^ (32 - B) = H := ⟨_, rfl⟩
    obtain ⟨R, hR⟩ : ∃ R, mkB lo (32 - B) = R := ⟨_, rfl⟩
    rw [hH] at hand e1
    rw [hR] at hand ⊢
    have hcg := blk_cell hg1
    clear q1 hres
    replace hg1 := hide hg1
    replace hg2 := hide hg2
    replace hB2 := hide hB2
    replace hbits := hide hbits
    replace e1 := hide e1
    replace hH := hide hH
    replace hR := hide hR
    replace hBm := hide hBm
    replace hc := hide hc
    go_enter Tryd.func57, Tryd.ntmps57
    go_wp2_with fail
    clear hw1 hw2
    refine (hbits.out w2).mono ?_
    rintro e w3 ⟨rfl, hb3⟩
    have hg13 := blk_below hb3 (by omega) hg1.out
    have hg23 := blk_below hb3 hz hg2.out
    have hB3 := hB2.out.trans (hb3.mono hB2.out.size)
    have hz3 := hb3.size
    clear hb3 hcg hg1 hg2 hB2 hbits
    have hcg := blk_cell hg13
    replace hg13 := hide hg13
    replace hg23 := hide hg23
    replace hB3 := hide hB3
    simp only [Bool.false_eq_true, if_false]
    go_upto_region 4 with fail
    have hcl := fun l : Later w3 => blk_cell (blk_below l.hb (by omega) hg13.out)
    have q := fun l : Later w3 => e1.out l.w
    clear hcg
    refine wp_region_L (by as_aux_lemma => kernel_rfl) ?_
    refine wpE_seg 0 3 (fuel := 4) (by as_aux_lemma => kernel_rfl) (fun d _ _ _ _ h => by cases d <;> exact h) (by as_aux_lemma => kernel_rfl) (by as_aux_lemma => kernel_rfl) ?_
    simp only [List.drop_zero, List.take_succ_cons, List.take_zero]
    iterate 3 (refine wpQE_step (fun K hK => ?_); go_simp; refine hK _ ?_; clear hK K)
    refine wpQE_nil ?_
    refine wpE_seg 3 2 (fuel := 2) (by as_aux_lemma => kernel_rfl) (fun d _ _ _ _ h => by cases d <;> exact h) (by as_aux_lemma => kernel_rfl) (by as_aux_lemma => kernel_rfl) ?_
    simp only [List.drop_succ_cons, List.drop_zero, List.take_succ_cons, List.take_zero]
    (refine wpQE_step (fun K hK => ?_); go_simp; apply Exists.intro; refine ⟨fun l => ?_, hK _ ?_⟩; (go_at_call 85; refine (q l).mono ?_; rintro e w' ⟨rfl, hb⟩; exact ⟨rfl, hb⟩); clear hK K)
    iterate 1 (refine wpQE_step (fun K hK => ?_); go_simp; refine hK _ ?_; clear hK K)
    refine wpQE_nil ?_
    clear hcl q
    refine wpE_end (by as_aux_lemma => kernel_rfl) (fun l2 => ?_)
    have hg14 := blk_below l2.hb (by omega) hg13.out
    have hg24 := blk_below l2.hb (by omega) hg23.out
    have hB4 := hB3.out.trans (l2.hb.mono hB3.out.size)
    have hz4 := l2.hb.size
    obtain ⟨w9, e9, hg9, g9⟩ := store_cell hg14 2 (.int .u64 (R : Int))
    have hg9 : w9.heap[w.heap.size]? = some (.cells #[.bool false, .int .u64 (hi : Int), .int .u64 (R : Int)] 26 (0, 0)) := hg9
    have c9 := blk_cell hg14 2
    have f9 := blk_free hg14 2
    replace hg9 := hide hg9
    replace g9 := hide g9
    replace hg24 := hide hg24
    replace hB4 := hide hB4
    replace hg14 := hide hg14
    refine wpT_step 5 rfl (by as_aux_lemma => kernel_rfl) (fun K hK => ?_)
    go_simp
    refine hK _ _ ?_
    clear hK K
    refine wpT_step 6 rfl (by as_aux_lemma => kernel_rfl) (fun K hK => ?_)
    go_simp
    refine hK _ _ ?_
    clear hK K
    refine wpT_done (by as_aux_lemma => kernel_rfl) ?_ 0
    have hr9 := grown_other g9.out (by omega) (by omega) hg24.out
    have hB9 : Below w.heap.size w w9 := hB4.out.trans (below_grown g9.out (by omega) (Nat.le_refl _))
    have hz9 := g9.out.size
    clear e9 c9 f9 g9 hg24 hB4 hg13 hg23 hB3 hg14
    replace hr9 := hide hr9
    replace hB9 := hide hB9
    go_upto_region 5 with fail
    apply wp_region_lit
    refine wpl_ld rfl 26 (.tmp 2) rfl w.heap.size rfl _ _ hg9.out Tryd.underlying26 rfl (by kernel_rfl) ?_
    refine wpl_st rfl 26 (.tmp 4) (.tmp 21) rfl (w.heap.size + 1) 0 rfl (#[.bool false, .int .u64 (hi : Int), .int .u64 (R : Int)]) rfl hr9.out (by simp) (by kernel_rfl) (adr_one _ _ _) fun w9 hg9 g9 => ?_
    rw [putA_whole _ _ (by rfl)] at hg9
    have hb9 : Below (w.heap.size) w w9 := (hB9.out).trans (below_grown g9 (by have := (hB9.out).size; omega) (by omega))
    have hld : (loadVar 26 ⟨w.heap.size + 1, 0, none⟩).run Tryd.prog w9 = .ok (.agg (#[.bool false, .int .u64 (hi : Int), .int .u64 (R : Int)])) w9 := by
      simpa using run_loadVar_mid w9 (w.heap.size + 1) 0 26 (#[.bool false, .int .u64 (hi : Int), .int .u64 (R : Int)]).toList _ (blk_range hg9) Tryd.underlying26 rfl (by kernel_rfl)
    clear hg9 g9
    replace hld := hide hld
    replace hb9 := hide hb9
    refine wpList_nil ?_
    go_simp
    go_wp2_with fail
    exact bodyPost_ret (v := .agg #[.bool false, .int .u64 (hi : Int), .int .u64 (R : Int)]) (by simp [results, Tryd.results57, asAddr, hld.out, Result.andThen]) rfl ⟨rfl, hb9.out⟩
  · obtain ⟨B, hBm⟩ : ∃ B, min m 128 = B := ⟨_, rfl⟩
    have hBi : min (m : Int) 128 = (B : Int) := by omega
    have hres : (Adr.mask ⟨true, hi, lo⟩ (min m (Adr.w ⟨true, hi, lo⟩))) = ⟨true, mkB hi (64 - min B 64), mkB lo (64 - (B - 64))⟩ := by
      show Adr.mask ⟨true, hi, lo⟩ (min m 128) = _
      rw [hBm]; rfl
    rw [hres]
    unfold Adr.arr
    dsimp only
    obtain ⟨c1, hc1⟩ : ∃ c, min B 64 = c := ⟨_, rfl⟩
    obtain ⟨c2, hc2⟩ : ∃ c, B - 64 = c := ⟨_, rfl⟩
    have wm1 : min (B : Int) 64 = (c1 : Int) := by omega
    have ws2 : IntKind.i64.wrap ((B : Int) - 64) = (B : Int) - 64 := by rw [IntKind.wrap_i64]; omega
    have wm2 : max ((B : Int) - 64) 0 = (c2 : Int) := by omega
    rw [hc1, hc2]
    have hbits := fun w => Bits_any true (hi : Int) (lo : Int) w
    have q1 := fun w => pcut_bel c1 (by omega) w
    have q2 := fun w => pcut_bel c2 (by omega) w
    have hand1 := u64_high hi (64 - c1) hhi (by omega)
    have hand2 := u64_high lo (64 - c2) hlo (by omega)
    obtain ⟨H1, hH1⟩ : ∃ H, 18446744073709551616 - 2 ^ (64 - c1) = H := ⟨_, rfl⟩
    obtain ⟨H2, hH2⟩ : ∃ H, 18446744073709551616 - 2 ^ (64 - c2) = H := ⟨_, rfl⟩
    obtain ⟨R1, hR1⟩ : ∃ R, mkB hi (64 - c1) = R := ⟨_, rfl⟩
    obtain ⟨R2, hR2⟩ : ∃ R, mkB lo (64 - c2) = R := ⟨_, rfl⟩
    rw [hH1] at hand1 q1
    rw [hH2] at hand2 q2
    rw [hR1] at hand1 ⊢
    rw [hR2] at hand2 ⊢
    have hcg := blk_cell hg1
    clear hres
    replace hg1 := hide hg1
    replace hg2 := hide hg2
    replace hB2 := hide hB2
    replace hbits := hide hbits
    replace q1 := hide q1
    replace q2 := hide q2
    replace hH1 := hide hH1
    replace hH2 := hide hH2
    replace hR1 := hide hR1
    replace hR2 := hide hR2
    replace hBm := hide hBm
    replace hc1 := hide hc1
    replace hc2 := hide hc2
    go_enter Tryd.func57, Tryd.ntmps57
    go_wp2_with fail
    clear hw1 hw2
    refine (hbits.out w2).mono ?_
    rintro e w3 ⟨rfl, hb3⟩
    have hg13 := blk_below hb3 (by omega) hg1.out
    have hg23 := blk_below hb3 hz hg2.out
    have hB3 := hB2.out.trans (hb3.mono hB2.out.size)
    have hz3 := hb3.size
    clear hb3 hcg hg1 hg2 hB2 hbits
    have hcg := blk_cell hg13
    replace hg13 := hide hg13
    replace hg23 := hide hg23
    replace hB3 := hide hB3
    simp only [if_true]
    go_upto_region 6 with fail
    have hcl := fun l : Later w3 => blk_cell (blk_below l.hb (by omega) hg13.out)
    have q := fun l : Later w3 => q1.out l.w
    clear hcg
    refine wp_region_L (by as_aux_lemma => kernel_rfl) ?_
    refine wpE_seg 0 4 (fuel := 4) (by as_aux_lemma => kernel_rfl) (fun d _ _ _ _ h => by cases d <;> exact h) (by as_aux_lemma => kernel_rfl) (by as_aux_lemma => kernel_rfl) ?_
    simp only [List.drop_zero, List.take_succ_cons, List.take_zero]
    iterate 4 (refine wpQE_step (fun K hK => ?_); go_simp; refine hK _ ?_; clear hK K)
    refine wpQE_nil ?_
    refine wpE_seg 4 2 (fuel := 2) (by as_aux_lemma => kernel_rfl) (fun d _ _ _ _ h => by cases d <;> exact h) (by as_aux_lemma => kernel_rfl) (by as_aux_lemma => kernel_rfl) ?_
    simp only [List.drop_succ_cons, List.drop_zero, List.take_succ_cons, List.take_zero]
    (refine wpQE_step (fun K hK => ?_); go_simp; apply Exists.intro; refine ⟨fun l => ?_, hK _ ?_⟩; (go_at_call 85; refine (q l).mono ?_; rintro e w' ⟨rfl, hb⟩; exact ⟨rfl, hb⟩); clear hK K)
    iterate 1 (refine wpQE_step (fun K hK => ?_); go_simp; refine hK _ ?_; clear hK K)
    refine wpQE_nil ?_
    clear hcl q
    refine wpE_end (by as_aux_lemma => kernel_rfl) (fun l2 => ?_)
    have hg14 := blk_below l2.hb (by omega) hg13.out
    have hg24 := blk_below l2.hb (by omega) hg23.out
    have hB4 := hB3.out.trans (l2.hb.mono hB3.out.size)
    have hz4 := l2.hb.size
    obtain ⟨w9, e9, hg9, g9⟩ := store_cell hg14 1 (.int .u64 (R1 : Int))
    have hg9 : w9.heap[w.heap.size]? = some (.cells #[.bool true, .int .u64 (R1 : Int), .int .u64 (lo : Int)] 26 (0, 0)) := hg9
    have c9 := blk_cell hg14 1
    have f9 := blk_free hg14 1
    replace hg9 := hide hg9
    replace g9 := hide g9
    replace hg24 := hide hg24
    replace hB4 := hide hB4
    replace hg14 := hide hg14
    refine wpT_step 6 rfl (by as_aux_lemma => kernel_rfl) (fun K hK => ?_)
    go_simp
    refine hK _ _ ?_
    clear hK K
    refine wpT_step 7 rfl (by as_aux_lemma => kernel_rfl) (fun K hK => ?_)
    go_simp
    refine hK _ _ ?_
    clear hK K
    refine wpT_done (by as_aux_lemma => kernel_rfl) ?_ 0
    have hr9 := grown_other g9.out (by omega) (by omega) hg24.out
    have hB9 : Below w.heap.size w w9 := hB4.out.trans (below_grown g9.out (by omega) (Nat.le_refl _))
    have hz9 := g9.out.size
    clear e9 c9 f9 g9 hg24 hB4 hg13 hg23 hB3 hg14
    replace hr9 := hide hr9
    replace hB9 := hide hB9
    go_upto_region 7 with fail
    have hcl := fun l : Later w9 => blk_cell (blk_below l.hb (by omega) hg9.out)
    have q := fun l : Later w9 => q2.out l.w
    refine wp_region_L (by as_aux_lemma => kernel_rfl) ?_
    refine wpE_seg 0 5 (fuel := 4) (by as_aux_lemma => kernel_rfl) (fun d _ _ _ _ h => by cases d <;> exact h) (by as_aux_lemma => kernel_rfl) (by as_aux_lemma => kernel_rfl) ?_
    simp only [List.drop_zero, List.take_succ_cons, List.take_zero]
    iterate 5 (refine wpQE_step (fun K hK => ?_); go_simp; refine hK _ ?_; clear hK K)
    refine wpQE_nil ?_
    refine wpE_seg 5 2 (fuel := 2) (by as_aux_lemma => kernel_rfl) (fun d _ _ _ _ h => by cases d <;> exact h) (by as_aux_lemma => kernel_rfl) (by as_aux_lemma => kernel_rfl) ?_
    simp only [List.drop_succ_cons, List.drop_zero, List.take_succ_cons, List.take_zero]
    (refine wpQE_step (fun K hK => ?_); go_simp; apply Exists.intro; refine ⟨fun l => ?_, hK _ ?_⟩; (go_at_call 85; refine (q l).mono ?_; rintro e w' ⟨rfl, hb⟩; exact ⟨rfl, hb⟩); clear hK K)
    iterate 1 (refine wpQE_step (fun K hK => ?_); go_simp; refine hK _ ?_; clear hK K)
    refine wpQE_nil ?_
    clear hcl q
    refine wpE_end (by as_aux_lemma => kernel_rfl) (fun l3 => ?_)
    have hg15 := blk_below l3.hb (by omega) hg9.out
    have hg25 := blk_below l3.hb (by omega) hr9.out
    have hB5 := hB9.out.trans (l3.hb.mono hB9.out.size)
    have hz5 := l3.hb.size
    obtain ⟨w10, e10, hg10, g10⟩ := store_cell hg15 2 (.int .u64 (R2 : Int))
    have hg10 : w10.heap[w.heap.size]? = some (.cells #[.bool true, .int .u64 (R1 : Int), .int .u64 (R2 : Int)] 26 (0, 0)) := hg10
    have c10 := blk_cell hg15 2
    have f10 := blk_free hg15 2
    replace hg10 := hide hg10
    replace g10 := hide g10
    replace hg25 := hide hg25
    replace hB5 := hide hB5
    replace hg15 := hide hg15
    refine wpT_step 7 rfl (by as_aux_lemma => kernel_rfl) (fun K hK => ?_)
    go_simp
    refine hK _ _ ?_
    clear hK K
    refine wpT_step 8 rfl (by as_aux_lemma => kernel_rfl) (fun K hK => ?_)
    go_simp
    refine hK _ _ ?_
    clear hK K
    refine wpT_done (by as_aux_lemma => kernel_rfl) ?_ 0
    have hr10 := grown_other g10.out (by omega) (by omega) hg25.out
    have hB10 : Below w.heap.size w w10 := hB5.out.trans (below_grown g10.out (by omega) (Nat.le_refl _))
    clear e10 c10 f10 g10 hg25 hB5 hr9 hB9 hg9 hg15
    replace hr10 := hide hr10
    replace hB10 := hide hB10
    go_upto_region 8 with fail
    apply wp_region_lit
    refine wpl_ld rfl 26 (.tmp 2) rfl w.heap.size rfl _ _ hg10.out Tryd.underlying26 rfl (by kernel_rfl) ?_
    refine wpl_st rfl 26 (.tmp 4) (.tmp 37) rfl (w.heap.size + 1) 0 rfl (#[.bool true, .int .u64 (R1 : Int), .int .u64 (R2 : Int)]) rfl hr10.out (by simp) (by kernel_rfl) (adr_one _ _ _) fun w9 hg9 g9 => ?_
    rw [putA_whole _ _ (by rfl)] at hg9
    have hb9 : Below (w.heap.size) w w9 := (hB10.out).trans (below_grown g9 (by have := (hB10.out).size; omega) (by omega))
    have hld : (loadVar 26 ⟨w.heap.size + 1, 0, none⟩).run Tryd.prog w9 = .ok (.agg (#[.bool true, .int .u64 (R1 : Int), .int .u64 (R2 : Int)])) w9 := by
      simpa using run_loadVar_mid w9 (w.heap.size + 1) 0 26 (#[.bool true, .int .u64 (R1 : Int), .int .u64 (R2 : Int)]).toList _ (blk_range hg9) Tryd.underlying26 rfl (by kernel_rfl)
    clear hg9 g9
    replace hld := hide hld
    replace hb9 := hide hb9
    refine wpList_nil ?_
    go_simp
    go_wp2_with fail
    exact bodyPost_ret (v := .agg #[.bool true, .int .u64 (R1 : Int), .int .u64 (R2 : Int)]) (by simp [results, Tryd.results57, asAddr, hld.out, Result.andThen]) rfl ⟨rfl, hb9.out⟩
end Addr05
end Go.Proofs.YtbcicbiphgeghaaDoor
/- pfx: Right: may a prefix be. Conditions: numbers of 64 bits. -/
namespace Go.Proofs.YtbcicbiphgeghaaDoor
open Go.RowKit Go.ChangeShapes Go.WideShapes Go.ChangeAt Go.Deep
namespace Addr05
/-- May a prefix be? -/
def rightP (a : Adr) (i : Int) : Bool := decide (0 ≤ i) && a.rightP i.toNat
theorem right_no1 (a : Adr) (i : Int) (h : rightB a.v6 a.hi a.lo = false) : rightP a i = false := by
  unfold rightP Adr.rightP
  rw [Bool.and_eq_false_iff]
  right
  rw [decide_eq_false_iff_not]
  rintro ⟨h1, -⟩
  rw [(rightB_iff a).2 h1] at h
  cases h
theorem right_no2 (a : Adr) (i : Int) (h : i < 0) : rightP a i = false := by
  unfold rightP
  rw [decide_eq_false (by omega)]
  rfl
theorem right_no3 (a : Adr) (i : Int) (h0 : 0 ≤ i) (h : (a.w : Int) < i) : rightP a i = false := by
  unfold rightP Adr.rightP
  rw [Bool.and_eq_false_iff]
  right
  rw [decide_eq_false_iff_not]
  rintro ⟨-, h1, -⟩
  omega
theorem right_is (a : Adr) (i : Int) (hb : rightB a.v6 a.hi a.lo = true) (h0 : 0 ≤ i) (h : i ≤ (a.w : Int)) : rightP a i = decide (a.mask (clampN a i) = a) := by
  have e : clampN a i = i.toNat := by unfold clampN; omega
  unfold rightP Adr.rightP
  rw [decide_eq_true h0, Bool.true_and, e, decide_eq_decide]
  exact ⟨fun h => h.2.2, fun h' => ⟨(rightB_iff a).1 hb, by omega, h'⟩⟩
def pArr (a : Adr) (i : Int) : Array Value := #[.bool a.v6, .int .u64 (a.hi : Int), .int .u64 (a.lo : Int), .int .i64 i]
set_option maxRecDepth 20000 in
set_option maxHeartbeats 8000000 in
theorem pRight_any (a : Adr) (ho : a.ok) (i : Int) (w : World) :
    Calls Tryd.prog 14 #[.agg (pArr a i)] w fun e w' => e = .returned (.bool (rightP a i)) ∧ Below w.heap.size w w' := by
  have hn1 := right_no1 a i
  have hn2 := right_no2 a i
  have hn3 := right_no3 a i
  have his := right_is a i
  have hMask := Mask_any a ho i
  have hmv := a.mask_v6 (clampN a i)
  have hw128 := a.w_le
  have hR := fun w => Right_any a.v6 a.hi a.lo w
  have hBits : ∀ w : World, Calls Tryd.prog 56 #[.agg #[.bool a.v6, .int .u64 (a.hi : Int), .int .u64 (a.lo : Int)]] w fun e w' => e = .returned (.int .i64 (a.w : Int)) ∧ Below w.heap.size w w' := by
    intro w
    have h := Bits_any a.v6 (a.hi : Int) (a.lo : Int) w
    have e : (if a.v6 = true then (128 : Int) else 32) = (a.w : Int) := by unfold Adr.w; split <;> rfl
    rwa [e] at h
  obtain ⟨W, hW⟩ : ∃ W, a.w = W := ⟨_, rfl⟩
  rw [hW] at hn3 his hBits hw128
  obtain ⟨⟨mv, mh, ml⟩, hM⟩ : ∃ M, a.mask (clampN a i) = M := ⟨_, rfl⟩
  rw [hM] at hMask his hmv
  obtain ⟨RP, hRP⟩ : ∃ x, rightP a i = x := ⟨_, rfl⟩
  rw [hRP] at hn1 hn2 hn3 his ⊢
  unfold pArr
  obtain ⟨v, hi, lo⟩ := a
  clear hW hM hRP ho
  dsimp only at hn1 hn2 hn3 his hMask hmv hR hBits ⊢
  subst hmv
  unfold Adr.arr at hMask
  dsimp only at hMask
  obtain ⟨w1, hw1⟩ : ∃ w1, w.alloc (.cells #[.bool mv, .int .u64 (hi : Int), .int .u64 (lo : Int), .int .i64 i] 28) = w1 := ⟨_, rfl⟩
  have hB : Below w.heap.size w w1 := hw1 ▸ (Below.refl _ _).alloc (Nat.le_refl _) _
  have hg : w1.heap[w.heap.size]? = some (.cells #[.bool mv, .int .u64 (hi : Int), .int .u64 (lo : Int), .int .i64 i] 28 (0, 0)) := hw1 ▸ blk_new _ _ _
  have hzw : w.heap.size < w1.heap.size := by rw [← hw1]; simp
  have hcl := fun l : Later w1 => blk_cell (blk_below l.hb hzw hg)
  obtain ⟨RB, hRB⟩ : ∃ x, rightB mv hi lo = x := ⟨_, rfl⟩
  rw [hRB] at hn1 his hR
  have q1 := fun l : Later w1 => hR l.w
  have q2 := fun l : Later w1 => hBits l.w
  have q3 := fun l : Later w1 => hMask l.w
  clear hRB hR hBits hMask
  replace hB := hide hB
  replace hg := hide hg
  replace q1 := hide q1
  replace q2 := hide q2
  replace q3 := hide q3
  cases RB
  · obtain rfl : RP = false := hn1 rfl
    clear hn1 hn2 hn3 his
    go_enter Tryd.func14, Tryd.ntmps14
    go_upto_region 1 with fail
    clear hw1
    refine wp_region_L (by as_aux_lemma => kernel_rfl) ?_
    refine wpE_seg 0 27 (fuel := 0) (by as_aux_lemma => kernel_rfl) (fun d _ _ _ _ h => by cases d <;> exact h) (by as_aux_lemma => kernel_rfl) (by as_aux_lemma => kernel_rfl) ?_
    simp only [List.drop_zero, List.take_succ_cons, List.take_zero]
    iterate 2 (refine wpQE_step (fun K hK => ?_); go_simp; refine hK _ ?_; clear hK K)
    (refine wpQE_step (fun K hK => ?_); go_simp; apply Exists.intro; refine ⟨fun l => ?_, hK _ ?_⟩; (go_at_call 55; refine (q1.out l).mono ?_; rintro e w' ⟨rfl, hb⟩; exact ⟨rfl, hb⟩); clear hK K)
    refine wpQE_val_skip (.bool false) 3 rfl (fun l => rfl) (by as_aux_lemma => kernel_rfl) ?_
    dsimp only [putU, List.take_succ_cons, List.take_zero, List.drop_succ_cons, List.drop_zero, Act.put]
    iterate 1 (refine wpQE_step (fun K hK => ?_); go_simp; refine hK _ ?_; clear hK K)
    refine wpQE_val_skip (.bool false) 6 rfl (fun l => rfl) (by as_aux_lemma => kernel_rfl) ?_
    dsimp only [putU, List.take_succ_cons, List.take_zero, List.drop_succ_cons, List.drop_zero, Act.put]
    iterate 1 (refine wpQE_step (fun K hK => ?_); go_simp; refine hK _ ?_; clear hK K)
    refine wpQE_val_skip (.bool false) 8 rfl (fun l => rfl) (by as_aux_lemma => kernel_rfl) ?_
    dsimp only [putU, List.take_succ_cons, List.take_zero, List.drop_succ_cons, List.drop_zero, Act.put]
    iterate 2 (refine wpQE_step (fun K hK => ?_); go_simp; refine hK _ ?_; clear hK K)
    refine wpQE_nil ?_
    refine wpE_done (by as_aux_lemma => kernel_rfl) (fun w2 hb2 => ?_) 0
    clear hcl
    have hB2 := hB.out.trans (hb2.mono hB.out.size)
    clear hb2
    replace hB2 := hide hB2
    go_wp2_with fail
    go_ret
    exact ⟨rfl, hB2.out⟩
  by_cases h0 : i < 0
  · obtain rfl : RP = false := hn2 h0
    have t1 : decide (0 ≤ i) = false := by rw [decide_eq_false_iff_not]; omega
    have t2 : ¬ 0 ≤ i := by omega
    clear hn1 hn2 hn3 his
    replace h0 := hide h0
    go_enter Tryd.func14, Tryd.ntmps14
    go_upto_region 1 with fail
    clear hw1
    refine wp_region_L (by as_aux_lemma => kernel_rfl) ?_
    refine wpE_seg 0 27 (fuel := 0) (by as_aux_lemma => kernel_rfl) (fun d _ _ _ _ h => by cases d <;> exact h) (by as_aux_lemma => kernel_rfl) (by as_aux_lemma => kernel_rfl) ?_
    simp only [List.drop_zero, List.take_succ_cons, List.take_zero]
    iterate 2 (refine wpQE_step (fun K hK => ?_); go_simp; refine hK _ ?_; clear hK K)
    (refine wpQE_step (fun K hK => ?_); go_simp; apply Exists.intro; refine ⟨fun l => ?_, hK _ ?_⟩; (go_at_call 55; refine (q1.out l).mono ?_; rintro e w' ⟨rfl, hb⟩; exact ⟨rfl, hb⟩); clear hK K)
    iterate 4 (refine wpQE_step (fun K hK => ?_); go_simp; refine hK _ ?_; clear hK K)
    iterate 1 (refine wpQE_step (fun K hK => ?_); go_simp; refine hK _ ?_; clear hK K)
    refine wpQE_val_skip (.bool false) 6 rfl (fun l => rfl) (by as_aux_lemma => kernel_rfl) ?_
    dsimp only [putU, List.take_succ_cons, List.take_zero, List.drop_succ_cons, List.drop_zero, Act.put]
    iterate 1 (refine wpQE_step (fun K hK => ?_); go_simp; refine hK _ ?_; clear hK K)
    refine wpQE_val_skip (.bool false) 8 rfl (fun l => rfl) (by as_aux_lemma => kernel_rfl) ?_
    dsimp only [putU, List.take_succ_cons, List.take_zero, List.drop_succ_cons, List.drop_zero, Act.put]
    iterate 2 (refine wpQE_step (fun K hK => ?_); go_simp; refine hK _ ?_; clear hK K)
    refine wpQE_nil ?_
    refine wpE_done (by as_aux_lemma => kernel_rfl) (fun w2 hb2 => ?_) 0
    clear hcl
    have hB2 := hB.out.trans (hb2.mono hB.out.size)
    clear hb2
    replace hB2 := hide hB2
    go_wp2_with fail
    go_ret
    exact ⟨rfl, hB2.out⟩
  have h0' : 0 ≤ i := by omega
  have t1 : decide (0 ≤ i) = true := decide_eq_true h0'
  by_cases hw : (W : Int) < i
  · obtain rfl : RP = false := hn3 h0' hw
    have t2 : decide (i ≤ (W : Int)) = false := by rw [decide_eq_false_iff_not]; omega
    have t3 : ¬ i ≤ (W : Int) := by omega
    clear hn1 hn2 hn3 his
    replace h0 := hide h0
    replace hw := hide hw
    go_enter Tryd.func14, Tryd.ntmps14
    go_upto_region 1 with fail
    clear hw1
    refine wp_region_L (by as_aux_lemma => kernel_rfl) ?_
    refine wpE_seg 0 27 (fuel := 0) (by as_aux_lemma => kernel_rfl) (fun d _ _ _ _ h => by cases d <;> exact h) (by as_aux_lemma => kernel_rfl) (by as_aux_lemma => kernel_rfl) ?_
    simp only [List.drop_zero, List.take_succ_cons, List.take_zero]
    iterate 2 (refine wpQE_step (fun K hK => ?_); go_simp; refine hK _ ?_; clear hK K)
    (refine wpQE_step (fun K hK => ?_); go_simp; apply Exists.intro; refine ⟨fun l => ?_, hK _ ?_⟩; (go_at_call 55; refine (q1.out l).mono ?_; rintro e w' ⟨rfl, hb⟩; exact ⟨rfl, hb⟩); clear hK K)
    iterate 4 (refine wpQE_step (fun K hK => ?_); go_simp; refine hK _ ?_; clear hK K)
    iterate 1 (refine wpQE_step (fun K hK => ?_); go_simp; refine hK _ ?_; clear hK K)
    iterate 5 (refine wpQE_step (fun K hK => ?_); go_simp; refine hK _ ?_; clear hK K)
    (refine wpQE_step (fun K hK => ?_); go_simp; apply Exists.intro; refine ⟨fun l => ?_, hK _ ?_⟩; (go_at_call 56; refine (q2.out l).mono ?_; rintro e w' ⟨rfl, hb⟩; exact ⟨rfl, hb⟩); clear hK K)
    iterate 2 (refine wpQE_step (fun K hK => ?_); go_simp; refine hK _ ?_; clear hK K)
    refine wpQE_val_skip (.bool false) 8 rfl (fun l => rfl) (by as_aux_lemma => kernel_rfl) ?_
    dsimp only [putU, List.take_succ_cons, List.take_zero, List.drop_succ_cons, List.drop_zero, Act.put]
    iterate 2 (refine wpQE_step (fun K hK => ?_); go_simp; refine hK _ ?_; clear hK K)
    refine wpQE_nil ?_
    refine wpE_done (by as_aux_lemma => kernel_rfl) (fun w2 hb2 => ?_) 0
    clear hcl
    have hB2 := hB.out.trans (hb2.mono hB.out.size)
    clear hb2
    replace hB2 := hide hB2
    go_wp2_with fail
    go_ret
    exact ⟨rfl, hB2.out⟩
  have hw' : i ≤ (W : Int) := by omega
  have t2 : decide (i ≤ (W : Int)) = true := decide_eq_true hw'
  have hfin := his rfl h0' hw'
  clear hn1 hn2 hn3 his
  by_cases e1 : mh = hi
  · subst e1
    by_cases e2 : ml = lo
    · subst e2
      rw [decide_eq_true rfl] at hfin
      subst hfin
      replace h0 := hide h0
      replace hw := hide hw
      go_enter Tryd.func14, Tryd.ntmps14
      go_upto_region 1 with fail
      clear hw1
      refine wp_region_L (by as_aux_lemma => kernel_rfl) ?_
      refine wpE_seg 0 27 (fuel := 0) (by as_aux_lemma => kernel_rfl) (fun d _ _ _ _ h => by cases d <;> exact h) (by as_aux_lemma => kernel_rfl) (by as_aux_lemma => kernel_rfl) ?_
      simp only [List.drop_zero, List.take_succ_cons, List.take_zero]
      iterate 2 (refine wpQE_step (fun K hK => ?_); go_simp; refine hK _ ?_; clear hK K)
      (refine wpQE_step (fun K hK => ?_); go_simp; apply Exists.intro; refine ⟨fun l => ?_, hK _ ?_⟩; (go_at_call 55; refine (q1.out l).mono ?_; rintro e w' ⟨rfl, hb⟩; exact ⟨rfl, hb⟩); clear hK K)
      iterate 4 (refine wpQE_step (fun K hK => ?_); go_simp; refine hK _ ?_; clear hK K)
      iterate 1 (refine wpQE_step (fun K hK => ?_); go_simp; refine hK _ ?_; clear hK K)
      iterate 5 (refine wpQE_step (fun K hK => ?_); go_simp; refine hK _ ?_; clear hK K)
      (refine wpQE_step (fun K hK => ?_); go_simp; apply Exists.intro; refine ⟨fun l => ?_, hK _ ?_⟩; (go_at_call 56; refine (q2.out l).mono ?_; rintro e w' ⟨rfl, hb⟩; exact ⟨rfl, hb⟩); clear hK K)
      iterate 2 (refine wpQE_step (fun K hK => ?_); go_simp; refine hK _ ?_; clear hK K)
      iterate 5 (refine wpQE_step (fun K hK => ?_); go_simp; refine hK _ ?_; clear hK K)
      (refine wpQE_step (fun K hK => ?_); go_simp; apply Exists.intro; refine ⟨fun l => ?_, hK _ ?_⟩; (go_at_call 57; refine (q3.out l).mono ?_; rintro e w' ⟨rfl, hb⟩; exact ⟨rfl, hb⟩); clear hK K)
      iterate 5 (refine wpQE_step (fun K hK => ?_); go_simp; refine hK _ ?_; clear hK K)
      refine wpQE_nil ?_
      refine wpE_done (by as_aux_lemma => kernel_rfl) (fun w2 hb2 => ?_) 0
      clear hcl
      have hB2 := hB.out.trans (hb2.mono hB.out.size)
      clear hb2
      replace hB2 := hide hB2
      go_wp2_with fail
      go_ret
      exact ⟨rfl, hB2.out⟩
    · have n2 : ¬ (ml : Int) = (lo : Int) := by omega
      rw [decide_eq_false (fun h => e2 (Adr.mk.inj h).2.2)] at hfin
      subst hfin
      replace h0 := hide h0
      replace hw := hide hw
      go_enter Tryd.func14, Tryd.ntmps14
      go_upto_region 1 with fail
      clear hw1
      refine wp_region_L (by as_aux_lemma => kernel_rfl) ?_
      refine wpE_seg 0 27 (fuel := 0) (by as_aux_lemma => kernel_rfl) (fun d _ _ _ _ h => by cases d <;> exact h) (by as_aux_lemma => kernel_rfl) (by as_aux_lemma => kernel_rfl) ?_
      simp only [List.drop_zero, List.take_succ_cons, List.take_zero]
      iterate 2 (refine wpQE_step (fun K hK => ?_); go_simp; refine hK _ ?_; clear hK K)
      (refine wpQE_step (fun K hK => ?_); go_simp; apply Exists.intro; refine ⟨fun l => ?_, hK _ ?_⟩; (go_at_call 55; refine (q1.out l).mono ?_; rintro e w' ⟨rfl, hb⟩; exact ⟨rfl, hb⟩); clear hK K)
      iterate 4 (refine wpQE_step (fun K hK => ?_); go_simp; refine hK _ ?_; clear hK K)
      iterate 1 (refine wpQE_step (fun K hK => ?_); go_simp; refine hK _ ?_; clear hK K)
      iterate 5 (refine wpQE_step (fun K hK => ?_); go_simp; refine hK _ ?_; clear hK K)
      (refine wpQE_step (fun K hK => ?_); go_simp; apply Exists.intro; refine ⟨fun l => ?_, hK _ ?_⟩; (go_at_call 56; refine (q2.out l).mono ?_; rintro e w' ⟨rfl, hb⟩; exact ⟨rfl, hb⟩); clear hK K)
      iterate 2 (refine wpQE_step (fun K hK => ?_); go_simp; refine hK _ ?_; clear hK K)
      iterate 5 (refine wpQE_step (fun K hK => ?_); go_simp; refine hK _ ?_; clear hK K)
      (refine wpQE_step (fun K hK => ?_); go_simp; apply Exists.intro; refine ⟨fun l => ?_, hK _ ?_⟩; (go_at_call 57; refine (q3.out l).mono ?_; rintro e w' ⟨rfl, hb⟩; exact ⟨rfl, hb⟩); clear hK K)
      iterate 5 (refine wpQE_step (fun K hK => ?_); go_simp; refine hK _ ?_; clear hK K)
      refine wpQE_nil ?_
      refine wpE_done (by as_aux_lemma => kernel_rfl) (fun w2 hb2 => ?_) 0
      clear hcl
      have hB2 := hB.out.trans (hb2.mono hB.out.size)
      clear hb2
      replace hB2 := hide hB2
      go_wp2_with fail
      go_ret
      exact ⟨rfl, hB2.out⟩
  · have n1 : ¬ (mh : Int) = (hi : Int) := by omega
    rw [decide_eq_false (fun h => e1 (Adr.mk.inj h).2.1)] at hfin
    subst hfin
    replace h0 := hide h0
    replace hw := hide hw
    go_enter Tryd.func14, Tryd.ntmps14
    go_upto_region 1 with fail
    clear hw1
    refine wp_region_L (by as_aux_lemma => kernel_rfl) ?_
    refine wpE_seg 0 27 (fuel := 0) (by as_aux_lemma => kernel_rfl) (fun d _ _ _ _ h => by cases d <;> exact h) (by as_aux_lemma => kernel_rfl) (by as_aux_lemma => kernel_rfl) ?_
    simp only [List.drop_zero, List.take_succ_cons, List.take_zero]
    iterate 2 (refine wpQE_step (fun K hK => ?_); go_simp; refine hK _ ?_; clear hK K)
    (refine wpQE_step (fun K hK => ?_); go_simp; apply Exists.intro; refine ⟨fun l => ?_, hK _ ?_⟩; (go_at_call 55; refine (q1.out l).mono ?_; rintro e w' ⟨rfl, hb⟩; exact ⟨rfl, hb⟩); clear hK K)
    iterate 4 (refine wpQE_step (fun K hK => ?_); go_simp; refine hK _ ?_; clear hK K)
    iterate 1 (refine wpQE_step (fun K hK => ?_); go_simp; refine hK _ ?_; clear hK K)
    iterate 5 (refine wpQE_step (fun K hK => ?_); go_simp; refine hK _ ?_; clear hK K)
    (refine wpQE_step (fun K hK => ?_); go_simp; apply Exists.intro; refine ⟨fun l => ?_, hK _ ?_⟩; (go_at_call 56; refine (q2.out l).mono ?_; rintro e w' ⟨rfl, hb⟩; exact ⟨rfl, hb⟩); clear hK K)
    iterate 2 (refine wpQE_step (fun K hK => ?_); go_simp; refine hK _ ?_; clear hK K)
    iterate 5 (refine wpQE_step (fun K hK => ?_); go_simp; refine hK _ ?_; clear hK K)
    (refine wpQE_step (fun K hK => ?_); go_simp; apply Exists.intro; refine ⟨fun l => ?_, hK _ ?_⟩; (go_at_call 57; refine (q3.out l).mono ?_; rintro e w' ⟨rfl, hb⟩; exact ⟨rfl, hb⟩); clear hK K)
    iterate 5 (refine wpQE_step (fun K hK => ?_); go_simp; refine hK _ ?_; clear hK K)
    refine wpQE_nil ?_
    refine wpE_done (by as_aux_lemma => kernel_rfl) (fun w2 hb2 => ?_) 0
    clear hcl
    have hB2 := hB.out.trans (hb2.mono hB.out.size)
    clear hb2
    replace hB2 := hide hB2
    go_wp2_with fail
    go_ret
    exact ⟨rfl, hB2.out⟩
end Addr05
end Go.Proofs.YtbcicbiphgeghaaDoor
/- pfx: Text: a prefix as a text. Conditions: numbers of 64 bits. -/
namespace Go.Proofs.YtbcicbiphgeghaaDoor
open Go.RowKit Go.ChangeShapes Go.WideShapes Go.ChangeAt Go.Deep
namespace Addr05
set_option maxRecDepth 20000 in
set_option maxHeartbeats 4000000 in
theorem pText_any (a : Adr) (ho : a.ok) (i : Int) (w : World) :
    Calls Tryd.prog 69 #[.agg (pArr a i)] w fun e w' => e = .returned (.string (str (textP a (min (max i 0) 128).toNat))) ∧ Below w.heap.size w w' := by
  have hT := fun w => text_any a.v6 a.hi a.lo ho.1 ho.2 w
  have hlen := textA_len a
  have hN := pnum_any i
  have hnl := dig10_len (min (max i 0) 128).toNat (by omega)
  unfold textP
  unfold textA at hlen ⊢
  obtain ⟨T, hTe⟩ : ∃ x, textL a.v6 a.hi a.lo = x := ⟨_, rfl⟩
  obtain ⟨D, hDe⟩ : ∃ x, digL 10 (min (max i 0) 128).toNat = x := ⟨_, rfl⟩
  rw [hTe] at hT hlen ⊢
  rw [hDe] at hN hnl ⊢
  clear hTe hDe
  obtain ⟨T1, h1⟩ : ∃ x, T ++ [47] = x := ⟨_, rfl⟩
  obtain ⟨T2, h2⟩ : ∃ x, T1 ++ D = x := ⟨_, rfl⟩
  have hfin : T ++ 47 :: D = T2 := by rw [← h2, ← h1]; simp
  rw [hfin]
  have c1 : str T ++ ByteArray.mk #[47] = str T1 := by rw [← h1]; exact str_append T [47]
  have c2 : str T1 ++ str D = str T2 := by rw [← h2]; exact str_append _ _
  have l1 : (str T1).size = T.length + 1 := by rw [size_str, ← h1]; simp
  have z1 : ¬ 9223372036854775807 < (str T).size + 1 := by rw [size_str]; omega
  have z2 : ¬ 9223372036854775807 < (str T1).size + (str D).size := by rw [l1, size_str D]; omega
  unfold pArr
  obtain ⟨v, hi, lo⟩ := a
  dsimp only at hT ⊢
  obtain ⟨w1, hw1⟩ : ∃ w1, w.alloc (.cells #[.bool v, .int .u64 (hi : Int), .int .u64 (lo : Int), .int .i64 i] 28) = w1 := ⟨_, rfl⟩
  have hB : Below w.heap.size w w1 := hw1 ▸ (Below.refl _ _).alloc (Nat.le_refl _) _
  have hg : w1.heap[w.heap.size]? = some (.cells #[.bool v, .int .u64 (hi : Int), .int .u64 (lo : Int), .int .i64 i] 28 (0, 0)) := hw1 ▸ blk_new _ _ _
  have hzw : w.heap.size < w1.heap.size := by rw [← hw1]; simp
  have hcl := fun l : Later w1 => blk_cell (blk_below l.hb hzw hg)
  have q1 := fun l : Later w1 => hT l.w
  have q2 := fun l : Later w1 => hN l.w
  clear hT hN l1 h1 h2 hfin ho
  replace hB := hide hB
  replace hg := hide hg
  replace q1 := hide q1
  replace q2 := hide q2
  go_enter Tryd.func69, Tryd.ntmps69
  go_upto_region 1 with fail
  clear hw1
  refine wp_region_L (by as_aux_lemma => kernel_rfl) ?_
  refine wpE_seg 0 9 (fuel := 0) (by as_aux_lemma => kernel_rfl) (fun d _ _ _ _ h => by cases d <;> exact h) (by as_aux_lemma => kernel_rfl) (by as_aux_lemma => kernel_rfl) ?_
  simp only [List.drop_zero, List.take_succ_cons, List.take_zero]
  iterate 2 (refine wpQE_step (fun K hK => ?_); go_simp; refine hK _ ?_; clear hK K)
  (refine wpQE_step (fun K hK => ?_); go_simp; apply Exists.intro; refine ⟨fun l => ?_, hK _ ?_⟩; (go_at_call 68; refine (q1.out l).mono ?_; rintro e w' ⟨rfl, hb⟩; exact ⟨rfl, hb⟩); clear hK K)
  iterate 3 (refine wpQE_step (fun K hK => ?_); go_simp; refine hK _ ?_; clear hK K)
  (refine wpQE_step (fun K hK => ?_); go_simp; apply Exists.intro; refine ⟨fun l => ?_, hK _ ?_⟩; (go_at_call 82; refine (q2.out l).mono ?_; rintro e w' ⟨rfl, hb⟩; exact ⟨rfl, hb⟩); clear hK K)
  iterate 2 (refine wpQE_step (fun K hK => ?_); go_simp; refine hK _ ?_; clear hK K)
  refine wpQE_nil ?_
  refine wpE_done (by as_aux_lemma => kernel_rfl) (fun w2 hb2 => ?_) 0
  have hB2 := hB.out.trans (hb2.mono hB.out.size)
  clear hb2 hcl
  replace hB2 := hide hB2
  go_wp2_with fail
  go_ret
  exact ⟨rfl, hB2.out⟩
end Addr05
end Go.Proofs.YtbcicbiphgeghaaDoor
/- Two addresses that are held against each other. No condition. -/
namespace Go.Proofs.YtbcicbiphgeghaaDoor
open Go.RowKit Go.ChangeShapes Go.WideShapes Go.ChangeAt Go.Deep
namespace Addr05
abbrev arrA (a : Adr) : Array Value := #[.bool a.v6, .int .u64 (a.hi : Int), .int .u64 (a.lo : Int)]
theorem adr_ext {a b : Adr} (h1 : a.v6 = b.v6) (h2 : a.hi = b.hi) (h3 : a.lo = b.lo) : a = b := by
  obtain ⟨x, y, z⟩ := a
  obtain ⟨x', y', z'⟩ := b
  dsimp only at h1 h2 h3
  subst h1 h2 h3
  rfl
section
variable {w : World} {ops : Array Oper} {rest : List Oper} {o : Oper} {a : Act} {Q : Exit → Act → World → Prop}
theorem wpl_eqA (hg : o.guard = none) (x y : Operand) (ho : o.op = .binOp .eql 26 x y 26) (s u : Adr) (hx : a.eval x = .agg (arrA s)) (hy : a.eval y = .agg (arrA u))
    (hK : wpList Tryd.prog ops Q rest (a.put o.dst (.bool (decide (s = u)))) w) : wpList Tryd.prog ops Q (o :: rest) a w := by
  refine wpList_plain hg fun K' hK' => ?_
  have hk := hK' _ _ hK
  clear hK hK'
  obtain ⟨v6, hi, lo⟩ := s
  obtain ⟨v6', hi', lo'⟩ := u
  unfold Oper.wp
  simp only [execOp, ho, hx, hy, arrA]
  go_simp
  by_cases h1 : v6 = v6'
  · by_cases h2 : (hi : Int) = (hi' : Int)
    · by_cases h3 : (lo : Int) = (lo' : Int)
      · have e : (⟨v6, hi, lo⟩ : Adr) = ⟨v6', hi', lo'⟩ := adr_ext h1 (by dsimp only; omega) (by dsimp only; omega)
        rw [decide_eq_true e] at hk
        rw [if_pos h1, if_pos h2, if_pos h3]
        exact hk
      · have e : ¬ (⟨v6, hi, lo⟩ : Adr) = ⟨v6', hi', lo'⟩ := fun e => h3 (by cases e; rfl)
        rw [decide_eq_false e] at hk
        rw [if_pos h1, if_pos h2, if_neg h3]
        exact hk
    · have e : ¬ (⟨v6, hi, lo⟩ : Adr) = ⟨v6', hi', lo'⟩ := fun e => h2 (by cases e; rfl)
      rw [decide_eq_false e] at hk
      rw [if_pos h1, if_neg h2]
      exact hk
  · have e : ¬ (⟨v6, hi, lo⟩ : Adr) = ⟨v6', hi', lo'⟩ := fun e => h1 (by cases e; rfl)
    rw [decide_eq_false e] at hk
    rw [if_neg h1]
    exact hk
theorem wpl_neA (hg : o.guard = none) (x y : Operand) (ho : o.op = .binOp .neq 26 x y 26) (s u : Adr) (hx : a.eval x = .agg (arrA s)) (hy : a.eval y = .agg (arrA u))
    (hK : wpList Tryd.prog ops Q rest (a.put o.dst (.bool (!decide (s = u)))) w) : wpList Tryd.prog ops Q (o :: rest) a w := by
  refine wpList_plain hg fun K' hK' => ?_
  have hk := hK' _ _ hK
  clear hK hK'
  obtain ⟨v6, hi, lo⟩ := s
  obtain ⟨v6', hi', lo'⟩ := u
  unfold Oper.wp
  simp only [execOp, ho, hx, hy, arrA]
  go_simp
  by_cases h1 : v6 = v6'
  · by_cases h2 : (hi : Int) = (hi' : Int)
    · by_cases h3 : (lo : Int) = (lo' : Int)
      · have e : (⟨v6, hi, lo⟩ : Adr) = ⟨v6', hi', lo'⟩ := adr_ext h1 (by dsimp only; omega) (by dsimp only; omega)
        rw [decide_eq_true e] at hk
        rw [if_pos h1, if_pos h2, if_pos h3]
        exact hk
      · have e : ¬ (⟨v6, hi, lo⟩ : Adr) = ⟨v6', hi', lo'⟩ := fun e => h3 (by cases e; rfl)
        rw [decide_eq_false e] at hk
        rw [if_pos h1, if_pos h2, if_neg h3]
        exact hk
    · have e : ¬ (⟨v6, hi, lo⟩ : Adr) = ⟨v6', hi', lo'⟩ := fun e => h2 (by cases e; rfl)
      rw [decide_eq_false e] at hk
      rw [if_pos h1, if_neg h2]
      exact hk
  · have e : ¬ (⟨v6, hi, lo⟩ : Adr) = ⟨v6', hi', lo'⟩ := fun e => h1 (by cases e; rfl)
    rw [decide_eq_false e] at hk
    rw [if_neg h1]
    exact hk
end
end Addr05
end Go.Proofs.YtbcicbiphgeghaaDoor
/- An array of two addresses that is held against itself. No condition. -/
namespace Go.Proofs.YtbcicbiphgeghaaDoor
open Go.RowKit Go.ChangeShapes Go.WideShapes Go.ChangeAt Go.Deep
namespace Conf18
set_option maxRecDepth 20000 in
theorem eq_adr (d : Nat) (a : Bool) (b c : Int) (w : World) : (Op.equalIn (d + 1 + 1) 26 (.agg #[.bool a, .int .u64 b, .int .u64 c]) (.agg #[.bool a, .int .u64 b, .int .u64 c])).run Tryd.prog w = .ok true w := by
  go_simp
set_option maxRecDepth 20000 in
theorem eq_selfs (a : Bool) (b c : Int) (a' : Bool) (b' c' : Int) (w : World) : (Op.equalIn 10000 71 (.agg #[.bool a, .int .u64 b, .int .u64 c, .bool a', .int .u64 b', .int .u64 c']) (.agg #[.bool a, .int .u64 b, .int .u64 c, .bool a', .int .u64 b', .int .u64 c'])).run Tryd.prog w = .ok true w := by
  have e1 := eq_adr 9997 a b c w
  have e2 := eq_adr 9997 a' b' c' w
  rw [show (10000 : Nat) = 9999 + 1 from rfl, Op.equalIn]
  simp only [Sem.run_bind, run_underlying Tryd.underlying71, Result.andThen_ok]
  have hsz : (sizeOf 26).run Tryd.prog w = .ok 3 w := by kernel_rfl
  have p1 : (part 26 #[.bool a, .int .u64 b, .int .u64 c, .bool a', .int .u64 b', .int .u64 c'] 0).run Tryd.prog w = .ok (.agg #[.bool a, .int .u64 b, .int .u64 c]) w := by kernel_rfl
  have p2 : (part 26 #[.bool a, .int .u64 b, .int .u64 c, .bool a', .int .u64 b', .int .u64 c'] 3).run Tryd.prog w = .ok (.agg #[.bool a', .int .u64 b', .int .u64 c']) w := by kernel_rfl
  simp only [hsz, Result.andThen_ok, Std.Legacy.Range.forIn_eq_forIn_range', Std.Legacy.Range.size, List.range'_succ, List.range'_zero, Nat.sub_zero, Nat.add_sub_cancel, Nat.div_one]
  simp [List.range', List.forIn_cons, List.forIn_nil, Sem.run_bind, p1, p2, e1, e2]
end Conf18
end Go.Proofs.YtbcicbiphgeghaaDoor
