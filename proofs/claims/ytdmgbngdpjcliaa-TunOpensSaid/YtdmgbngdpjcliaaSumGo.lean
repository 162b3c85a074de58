/- The program's sum of Internet bytes (sum.Of, sum.Right, sum.Check), by contract. Conditions: the parts are slices of bytes that read as lists. -/
import Derived.Test.YtdmgbngdpjcliaaSumPlain
import Derived.Test.YtdmgbngdpjcliaaProg
namespace Go.Proofs.Ytdmgbngdpjcliaa
open Go.RowKit Go.ChangeShapes Go.WideShapes Go.ChangeAt Go.Deep
namespace Sum
set_option maxHeartbeats 1000000 in
theorem fold_any (s : Nat) (w : World) (hs : s < 4294967296) :
    Calls Try.prog 95 #[.int .u32 (s : Int)] w fun e w' => e = .returned (.int .u16 (ones s : Nat)) ∧ w = w' := by
  go_enter Try.func95, Try.ntmps95
  go_wp2
  go_loop [0] (fun v => ∃ t : Nat, t < 4294967296 ∧ ones t = ones s ∧ v = .int .u32 (t : Int)) (fun v => (intOf v).toNat)
  case atStart => exact ⟨s, hs, rfl, rfl⟩
  case round =>
    obtain ⟨t, ht, ho, rfl⟩ := hrel
    replace ho := hide ho
    have hand := u32_and_low t ht
    by_cases hlt : 65535 < t
    · go_wp2
      refine ⟨⟨t % 65536 + t / 65536, by omega, by rw [ones_fold]; exact ho.out, by go_num⟩, by simp [intOf]; omega⟩
    · have ht' : t ≤ 65535 := by omega
      go_wp2
      go_ret
      rw [← ho.out, ones_small ht']
      exact ⟨rfl, rfl⟩
/-- A part: a slice of bytes. -/
structure Part where
  A : Option Addr
  c : Nat
  xs : List UInt8
def Part.val (p : Part) : Value := .slice p.A p.xs.length p.c
def IsP (w : World) (B : Nat) (A : Option Addr) (n : Nat) (ps : List Part) : Prop :=
  ps.length = n ∧ (0 < n → ∃ b off, A = some ⟨b, off, none⟩ ∧ b < B ∧ ∀ i (h : i < ps.length), w.cell? ⟨b, off + i, none⟩ = some ps[i].val) ∧ ∀ p ∈ ps, IsB w B p.A p.xs.length p.xs ∧ p.xs.length ≤ maxLen
def flat (ps : List Part) : List UInt8 := ps.flatMap (·.xs)
theorem flat_take (ps : List Part) (i : Nat) (h : i < ps.length) : flat (ps.take (i + 1)) = flat (ps.take i) ++ ps[i].xs := by
  unfold flat
  rw [List.take_succ_eq_append_getElem h, List.flatMap_append]
  simp only [List.flatMap_singleton]
theorem IsP.part {w : World} {B n : Nat} {A : Option Addr} {ps : List Part} (h : IsP w B A n ps) {i : Nat} (hi : i < n) :
    ∃ b off A' c xs, A = some ⟨b, off, none⟩ ∧ w.cell? ⟨b, off + i, none⟩ = some (.slice A' xs.length c) ∧ IsB w B A' xs.length xs ∧ xs.length ≤ maxLen ∧ flat (ps.take (i + 1)) = flat (ps.take i) ++ xs := by
  obtain ⟨b, off, e, _, hc⟩ := h.2.1 (by omega)
  have hl : i < ps.length := by rw [h.1]; exact hi
  have hp := h.2.2 ps[i] (List.getElem_mem hl)
  exact ⟨b, off, _, _, _, e, hc i hl, hp.1, hp.2, flat_take ps i hl⟩

set_option maxHeartbeats 2000000 in
theorem of_any (A : Option Addr) (n c : Nat) (ps : List Part) (w : World) (hx : IsP w w.heap.size A n ps) (hn : n ≤ maxLen) :
    Calls Try.prog 83 #[.slice A n c] w fun e w' => e = .returned (.int .u16 (ones (tot false (flat ps)) : Nat)) ∧ w = w' := by
  unfold maxLen at hn
  go_enter Try.func83, Try.ntmps83
  go_wp2
  go_loop [3, 4, 11] (fun s o i => ∃ (k m : Nat) (b : Bool), k ≤ n ∧ i = .int .i64 (k : Int) ∧ s = .int .u32 (m : Int) ∧ o = .bool b ∧ m ≤ 65536 ∧ (m, b) = runS (0, false) (flat (ps.take k))) (fun _ _ i => n - (intOf i).toNat)
  case atStart => exact ⟨0, 0, false, Nat.zero_le _, rfl, rfl, rfl, by omega, by simp [flat, runS]⟩
  case round =>
    obtain ⟨k, m, b, hk, rfl, rfl, rfl, hm, hr⟩ := hrel
    replace hr := hide hr
    by_cases hlt : k < n
    · obtain ⟨bl, off, A', c', xs, rfl, hcell, hxs, hxl, hft⟩ := hx.part hlt
      replace hft := hide hft
      unfold maxLen at hxl
      go_wp2
      go_loop [3, 4, 17] (fun s o i => ∃ (j m' : Nat) (b' : Bool), j ≤ xs.length ∧ i = .int .i64 (j : Int) ∧ s = .int .u32 (m' : Int) ∧ o = .bool b' ∧ m' ≤ 65536 ∧ (m', b') = runS (m, b) (xs.take j)) (fun _ _ i => xs.length - (intOf i).toNat)
      case atStart => exact ⟨0, m, b, Nat.zero_le _, rfl, rfl, rfl, hm, by simp [runS]⟩
      case round =>
        obtain ⟨j, m', b', hj, rfl, rfl, rfl, hm', hr'⟩ := hrel
        replace hr' := hide hr'
        by_cases hjl : j < xs.length
        · obtain ⟨bb, ofb, v, rfl, hbl, hv, hv255, hcb⟩ := hxs.byte hjl
          have hs := runS_take (m, b) xs j hjl
          have hg : xs[j] = xs.getD j 0 := by simp [List.getD, hjl]
          rw [← hr'.out, hg] at hs
          have hle := stepS_le (m', b') (xs.getD j 0) hm'
          unfold stepS at hs hle
          rw [hv] at hs hle
          replace hs := hide hs
          replace hv := hide hv
          replace hg := hide hg
          cases b'
          · have hand : bits .and .u32 ((m' : Int) + (v : Int) * 256) 65535 = ((m' : Int) + (v : Int) * 256) % 65536 := by
              have h1 := u32_and_low (m' + v * 256) (by omega)
              rw [show ((m' : Int) + (v : Int) * 256) = ((m' + v * 256 : Nat) : Int) by omega, h1]; omega
            simp only [Bool.false_eq_true, if_false] at hle
            go_wp2
            refine ⟨⟨j + 1, (m' + 256 * v) % 65536 + (m' + 256 * v) / 65536, true, by omega, by go_num, by go_num, rfl, by omega, by rw [hs.out]; rfl⟩, by simp [intOf]; omega⟩
          · have hand : bits .and .u32 ((m' : Int) + (v : Int)) 65535 = ((m' : Int) + (v : Int)) % 65536 := by
              have h1 := u32_and_low (m' + v) (by omega)
              rw [show ((m' : Int) + (v : Int)) = ((m' + v : Nat) : Int) by omega, h1]; omega
            simp only [if_true] at hle
            go_wp2
            refine ⟨⟨j + 1, (m' + v) % 65536 + (m' + v) / 65536, false, by omega, by go_num, by go_num, rfl, by omega, by rw [hs.out]; rfl⟩, by simp [intOf]; omega⟩
        · obtain rfl : j = xs.length := by omega
          go_wp2
          refine ⟨⟨k + 1, m', b', by omega, by go_num, rfl, rfl, hm', ?_⟩, by simp [intOf]; omega⟩
          have h1 := hr'.out
          rw [List.take_length] at h1
          rw [h1, hr.out, hft.out, runS_append]
    · obtain rfl : k = n := by omega
      go_wp2_with (go_at_call 95; refine (fold_any _ _ (by omega)).mono ?_; rintro e w' ⟨rfl, rfl⟩)
      go_ret
      refine ⟨ret_int ?_, rfl⟩
      have h1 := hr.out
      rw [show ps.take k = ps by rw [← hx.1, List.take_length]] at h1
      have h2 := ones_run (flat ps)
      rw [← h1] at h2
      exact congrArg _ h2
theorem right_any (A : Option Addr) (n c : Nat) (ps : List Part) (w : World) (hx : IsP w w.heap.size A n ps) (hn : n ≤ maxLen) (r : Bool) (hr : decide (ones (tot false (flat ps)) = 65535) = r) :
    Calls Try.prog 53 #[.slice A n c] w fun e w' => e = .returned (.bool r) ∧ w = w' := by
  replace hr := hide hr
  go_enter Try.func53, Try.ntmps53
  go_wp2_with (go_at_call 83; refine (of_any _ _ _ ps _ hx hn).mono ?_; rintro e w' ⟨rfl, rfl⟩)
  go_ret
  exact ⟨ret_bool (by rw [← hr.out]; exact beq_nat _ 65535), rfl⟩
theorem check_any (A : Option Addr) (n c : Nat) (ps : List Part) (w : World) (hx : IsP w w.heap.size A n ps) (hn : n ≤ maxLen) :
    Calls Try.prog 82 #[.slice A n c] w fun e w' => e = .returned (.int .u16 ((65535 - ones (tot false (flat ps)) : Nat))) ∧ w = w' := by
  have hle := ones_le (tot false (flat ps))
  have hs : IntKind.u16.signed = false := rfl
  go_enter Try.func82, Try.ntmps82
  go_wp2_with (go_at_call 83; refine (of_any _ _ _ ps _ hx hn).mono ?_; rintro e w' ⟨rfl, rfl⟩)
  go_ret
  exact ⟨ret_int (u16_flip _ hle), rfl⟩
end Sum
end Go.Proofs.Ytdmgbngdpjcliaa
