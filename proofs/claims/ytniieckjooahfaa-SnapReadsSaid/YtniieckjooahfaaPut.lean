/- octet.Put: a number's bytes, put behind a row of bytes. Conditions: the row is the call's own, at most 8 bytes, sizes below 2^39. -/
import Derived.Test.YtniieckjooahfaaMem
namespace Go.Proofs.Ytniieckjooahfaa
open Go.RowKit Go.ChangeShapes Go.WideShapes Go.ChangeAt Go.Deep
/-- A number as so many bytes, the highest first. -/
def beB (N : Nat) : Nat → List UInt8
  | 0 => []
  | k + 1 => UInt8.ofNat (N / 256 ^ k) :: beB N k
theorem beB_length (N : Nat) : ∀ k, (beB N k).length = k
  | 0 => rfl
  | k + 1 => by simp [beB, beB_length N k]
theorem u8v_mod (x : Nat) : Value.int .u8 ((x : Int) % 256) = u8v (UInt8.ofNat x) := by
  unfold u8v
  rw [UInt8.toNat_ofNat']
  congr 1
theorem pow_shift (j : Nat) (hj : j ≤ 7) : (2 : Int) ^ min (8 * (j : Int)).toNat 64 = ((256 ^ j : Nat) : Int) := by
  rw [show (8 * (j : Int)).toNat = 8 * j by omega, show min (8 * j) 64 = 8 * j by omega, Int.pow_mul]
  simp
set_option maxHeartbeats 2000000 in
theorem put_any (base : Nat) (v : Value) (xs : List UInt8) (N k : Nat) (w : World) (hown : OwnB w base v xs) (hbase : base ≤ w.heap.size) (_hN : N < 18446744073709551616) (hk : k ≤ 8) (hl : xs.length ≤ 549755813888) :
    Calls Try.prog 79 #[v, .int .u64 (N : Int), .int .i64 (k : Int)] w fun e w' => ∃ v', e = .returned v' ∧ OwnB w' base v' (xs ++ beB N k) ∧ Grew w v w' v' := by
  go_enter Try.func79, Try.ntmps79
  go_wp2_with fail
  go_loopw [0, 7] (fun u i wr => ∃ (j : Nat) (pre : List UInt8), j ≤ k ∧ i = .int .i64 ((j : Int) - 1) ∧ pre ++ beB N j = beB N k ∧ OwnB wr base u (xs ++ pre) ∧ Grew w v wr u) (fun _ i _ => (intOf i + 1).toNat)
  case atStart => exact ⟨k, [], Nat.le_refl _, rfl, rfl, by simpa using hown, Grew.refl _ _⟩
  case round =>
    obtain ⟨j, pre, hj, rfl, hpre, hu, hg⟩ := hrel
    have hpl : pre.length ≤ 8 := by
      have := congrArg List.length hpre
      rw [List.length_append, beB_length, beB_length] at this
      omega
    replace hpre := hide hpre
    replace hu := hide hu
    replace hg := hide hg
    rcases j with _ | i
    · go_wp2_with fail
      go_ret
      have h1 := hpre.out
      simp only [beB, List.append_nil] at h1
      exact ⟨_, rfl, h1 ▸ hu.out, hg.out⟩
    · have e1 : (((i + 1 : Nat) : Int) - 1) = (i : Int) := by omega
      rw [e1]
      have hps := pow_shift i (by omega)
      go_wp2_with (at_builtin; refine wpl_lit_bv rfl (.tmp 16) (.tmp 22) rfl base _ (xs ++ pre) [UInt8.ofNat (N / 256 ^ i)] 1 1 rfl rfl ?_ rfl ?_ ?_ ?_ ?_)
      · rw [List.map_cons, List.map_nil, ← u8v_mod]
        congr 3
        rw [Int.pow_mul]
        simp
      · exact hu.out
      · have := hg.out.grown.size
        omega
      · rw [List.length_append]; omega
      intro v' w' hown' hg'
      go_wp2_with fail
      refine ⟨⟨i, pre ++ [UInt8.ofNat (N / 256 ^ i)], by omega, by go_num, ?_, ?_, hg.out.trans hg'⟩, by simp [intOf] <;> omega⟩
      · have h1 := hpre.out
        simp only [beB] at h1
        rw [← h1]; simp
      · simpa using hown'
theorem put_lit (Ni ki : Int) (N k : Nat) (hNi : Ni = (N : Int)) (hki : ki = (k : Int)) (base : Nat) (v : Value) (xs : List UInt8) (w : World) (hown : OwnB w base v xs) (hbase : base ≤ w.heap.size) (hN : N < 18446744073709551616) (hk : k ≤ 8) (hl : xs.length ≤ 549755813888) :
    Calls Try.prog 79 #[v, .int .u64 Ni, .int .i64 ki] w fun e w' => ∃ v', e = .returned v' ∧ OwnB w' base v' (xs ++ beB N k) ∧ Grew w v w' v' := by
  subst hNi hki
  exact put_any base v xs N k w hown hbase hN hk hl
end Go.Proofs.Ytniieckjooahfaa
