/- octet.Put behind a slice that is full (a constant's bytes), by contract. Conditions: 1 to 8 bytes, sizes below 2^38. -/
import Derived.Test.YtniieckjooahfaaAppend
import Derived.Test.YtniieckjooahfaaPut
namespace Go.Proofs.Ytniieckjooahfaa
open Go.RowKit Go.ChangeShapes Go.WideShapes Go.ChangeAt Go.Deep
set_option maxHeartbeats 2000000 in
theorem put_full (ad : Addr) (n B0 : Nat) (xs : List UInt8) (Ni ki : Int) (N k : Nat) (hNi : Ni = (N : Int)) (hki : ki = (k : Int)) (w : World) (hf : IsB w B0 (some ad) n xs) (hB0 : B0 ≤ w.heap.size) (_hN : N < 18446744073709551616) (hk : k ≤ 8) (hk0 : 0 < k) (hl : n ≤ 549755813888) :
    Calls Try.prog 79 #[.slice (some ad) n n, .int .u64 Ni, .int .i64 ki] w fun e w' => ∃ v', e = .returned v' ∧ OwnB w' w.heap.size v' (xs ++ beB N k) ∧ Below w.heap.size w w' := by
  subst hNi hki
  have hxn := hf.1
  go_enter Try.func79, Try.ntmps79
  go_wp2_with fail
  go_loopw [0, 7] (fun u i wr => ∃ (j : Nat) (pre : List UInt8), j ≤ k ∧ i = .int .i64 ((j : Int) - 1) ∧ pre ++ beB N j = beB N k ∧ ((u = .slice (some ad) n n ∧ pre = [] ∧ j = k ∧ w = wr) ∨ OwnB wr w.heap.size u (xs ++ pre)) ∧ Below w.heap.size w wr) (fun _ i _ => (intOf i + 1).toNat)
  case atStart => exact ⟨k, [], Nat.le_refl _, rfl, rfl, .inl ⟨rfl, rfl, rfl, rfl⟩, Below.refl _ _⟩
  case round =>
    obtain ⟨j, pre, hj, rfl, hpre, hu, hb⟩ := hrel
    have hz := hb.size
    have hpl : pre.length ≤ 8 := by
      have := congrArg List.length hpre
      rw [List.length_append, beB_length, beB_length] at this
      omega
    rcases j with _ | i
    · rcases hu with ⟨_, _, h0, _⟩ | hu'
      · omega
      replace hpre := hide hpre
      replace hu' := hide hu'
      replace hb := hide hb
      go_wp2_with fail
      go_ret
      have h1 := hpre.out
      simp only [beB, List.append_nil] at h1
      exact ⟨_, rfl, h1 ▸ hu'.out, hb.out⟩
    · have e1 : (((i + 1 : Nat) : Int) - 1) = (i : Int) := by omega
      rw [e1]
      have hps := pow_shift i (by omega)
      have hnext : (pre ++ [UInt8.ofNat (N / 256 ^ i)]) ++ beB N i = beB N k := by rw [← hpre, beB]; simp
      rcases hu with ⟨rfl, rfl, _, rfl⟩ | hu
      · clear hpre hb
        replace hnext := hide hnext
        replace hf := hide hf
        go_wp2_with (at_builtin; refine wpl_full_lit rfl (.tmp 16) (.tmp 22) rfl ad n xs [UInt8.ofNat (N / 256 ^ i)] 1 1 B0 rfl rfl ?_ rfl hf.out hB0 (by omega) (by omega) ?_)
        · rw [List.map_cons, List.map_nil, ← u8v_mod]
          congr 3
          rw [Int.pow_mul]
          simp
        intro v' w' h1 h2
        have hB := h2
        have hown : OwnB w' w.heap.size v' (xs ++ ([] ++ [UInt8.ofNat (N / 256 ^ i)])) := by simpa using h1
        clear h1 h2
        replace hB := hide hB
        replace hown := hide hown
        go_wp2_with fail
        exact ⟨⟨i, _, by omega, by go_num, hnext.out, .inr hown.out, hB.out⟩, by simp [intOf] <;> omega⟩
      · have hlt := fun k hk => (hu.lt k hk).1
        clear hpre
        replace hu := hide hu
        replace hb := hide hb
        replace hnext := hide hnext
        replace hlt := hide hlt
        go_wp2_with (at_builtin; refine wpl_lit_bv rfl (.tmp 16) (.tmp 22) rfl w.heap.size _ (xs ++ pre) [UInt8.ofNat (N / 256 ^ i)] 1 1 rfl rfl ?_ rfl hu.out hz (by rw [List.length_append]; omega) ?_)
        · rw [List.map_cons, List.map_nil, ← u8v_mod]
          congr 3
          rw [Int.pow_mul]
          simp
        intro v' w' h1 h2
        have hB := hb.out.trans (h2.below hu.out hz)
        have hown : OwnB w' w.heap.size v' (xs ++ (pre ++ [UInt8.ofNat (N / 256 ^ i)])) := by simpa using h1
        clear h1 h2
        replace hB := hide hB
        replace hown := hide hown
        go_wp2_with fail
        exact ⟨⟨i, _, by omega, by go_num, hnext.out, .inr hown.out, hB.out⟩, by simp [intOf] <;> omega⟩
end Go.Proofs.Ytniieckjooahfaa
