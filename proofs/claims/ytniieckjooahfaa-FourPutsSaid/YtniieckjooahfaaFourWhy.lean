/- What says why bytes are no packet, by contract, a theorem a branch. Conditions: at most 300 bytes that read as a list. -/
import Derived.Test.YtniieckjooahfaaFourParse
namespace Go.Proofs.Ytniieckjooahfaa
open Go.RowKit Go.ChangeShapes Go.WideShapes Go.ChangeAt Go.Deep
namespace Four
set_option maxRecDepth 4000 in
set_option maxHeartbeats 2000000 in
theorem why_short (A : Option Addr) (n c : Nat) (xs : List UInt8) (w : World) (hx : IsB w w.heap.size A n xs) (hnc : n ≤ c) (hnm : n ≤ 300) (h : n < 20) :
    Calls Try.prog 46 #[.slice A n c] w fun e w' => e = .returned (.int .i64 2) ∧ Below w.heap.size w w' := by
  go_enter Try.func46, Try.ntmps46
  go_wp2
  go_ret
  exact ⟨rfl, Below.refl _ _⟩
set_option maxRecDepth 4000 in
set_option maxHeartbeats 2000000 in
theorem why_version (A : Option Addr) (n c : Nat) (xs : List UInt8) (w : World) (hx : IsB w w.heap.size A n xs) (hnc : n ≤ c) (hnm : n ≤ 300) (h : 20 ≤ n) (hv : (xs.getD 0 0).toNat / 16 ≠ 4) :
    Calls Try.prog 46 #[.slice A n c] w fun e w' => e = .returned (.int .i64 10) ∧ Below w.heap.size w w' := by
  obtain ⟨b, off, v0, rfl, hbl, hv0, hv0l, hc0⟩ := hx.byte (i := 0) (by omega)
  rw [Nat.add_zero] at hc0
  rw [hv0] at hv
  have i0 : 0 < n := by omega
  have hb : (((v0 : Int) / 16) != 4) = true := by rw [bne_iff_ne]; omega
  replace hv0 := hide hv0
  replace hx := hide hx
  go_enter Try.func46, Try.ntmps46
  go_wp2
  go_ret
  exact ⟨rfl, Below.refl _ _⟩
set_option maxRecDepth 4000 in
set_option maxHeartbeats 2000000 in
theorem why_header1 (A : Option Addr) (n c : Nat) (xs : List UInt8) (w : World) (hx : IsB w w.heap.size A n xs) (hnc : n ≤ c) (hnm : n ≤ 300) (h : 20 ≤ n) (hv : (xs.getD 0 0).toNat / 16 = 4) (s : Nat) (hs : (xs.getD 0 0).toNat % 16 * 4 = s) (h5 : s < 20) :
    Calls Try.prog 46 #[.slice A n c] w fun e w' => e = .returned (.int .i64 11) ∧ Below w.heap.size w w' := by
  obtain ⟨b, off, v0, rfl, hbl, hv0, hv0l, hc0⟩ := hx.byte (i := 0) (by omega)
  obtain ⟨v2, hv2, hv2l, hc2⟩ := hx.byteAt (i := 2) (by omega)
  obtain ⟨v3, hv3, hv3l, hc3⟩ := hx.byteAt (i := 3) (by omega)
  obtain ⟨v6, hv6, hv6l, hc6⟩ := hx.byteAt (i := 6) (by omega)
  rw [Nat.add_zero] at hc0
  rw [hv0] at hv hs
  have hal : beN xs 2 2 = v2 * 256 + v3 := by
    simp only [beN, Nat.zero_mul, Nat.zero_add]
    rw [show 2 + 0 = 2 by rfl, show 2 + 1 = 3 by rfl, hv2, hv3]
  have hfl : beN xs 6 2 / 32768 = v6 / 128 := by
    have h7 := (xs.getD 7 0).toNat_lt
    simp only [beN, Nat.zero_mul, Nat.zero_add]
    rw [show 6 + 0 = 6 by rfl, show 6 + 1 = 7 by rfl, hv6]
    omega
  obtain ⟨al, hal2⟩ : ∃ al, v2 * 256 + v3 = al := ⟨_, rfl⟩
  have d0 : ∀ l : Later w, l.w.cell? ⟨b, off, none⟩ = some (.int .u8 (v0 : Nat)) := fun l => l.cell hc0
  have d2 : ∀ l : Later w, l.w.cell? ⟨b, off + 2, none⟩ = some (.int .u8 (v2 : Nat)) := fun l => l.cell hc2
  have d3 : ∀ l : Later w, l.w.cell? ⟨b, off + 3, none⟩ = some (.int .u8 (v3 : Nat)) := fun l => l.cell hc3
  have d6 : ∀ l : Later w, l.w.cell? ⟨b, off + 6, none⟩ = some (.int .u8 (v6 : Nat)) := fun l => l.cell hc6
  clear hc2 hc3 hc6
  have i0 : 0 < n := by omega
  have i2 : 2 < n := by omega
  have i3 : 3 < n := by omega
  have i6 : 6 < n := by omega
  have k2 : (2 : Int) < (n : Int) := by omega
  have k3 : (3 : Int) < (n : Int) := by omega
  have k6 : (6 : Int) < (n : Int) := by omega
  have hb : (((v0 : Int) / 16) != 4) = false := by rw [bne_eq_false_iff_eq]; omega
  have e1 : (v0 : Int) % 16 * 4 = (s : Int) := by omega
  have e2 : 256 * (v2 : Int) + (v3 : Int) = (al : Int) := by omega
  have hs60 : s ≤ 60 := by omega
  replace hal := hide hal
  replace hal2 := hide hal2
  replace hfl := hide hfl
  replace hs := hide hs
  replace hv := hide hv
  replace hv0 := hide hv0
  replace hv2 := hide hv2
  replace hv3 := hide hv3
  replace hv6 := hide hv6
  replace hx := hide hx
  have t1 : (s : Int) < 20 := by omega
  go_enter Try.func46, Try.ntmps46
  go_wp2_with fail
  have q0 : (IntKind.i64.wrap ((v0 : Int) % 16)) = (v0 : Int) % 16 := wraps62 _ (by omega) (by omega)
  (try rw [q0])
  (try rw [e1])
  clear q0
  refine wp_region_later (by kernel_rfl) (by kernel_rfl) ?_
  repeat (refine wpQuiet_step (fun K hK => ?_); go_simp; refine hK _ ?_; clear hK K)
  refine wpQuiet_nil ?_
  intro l
  have q1 : IntKind.i64.wrap (v2 : Int) = (v2 : Int) := wraps62 _ (by omega) (by omega)
  have q2 : IntKind.i64.wrap (256 * (v2 : Int)) = 256 * (v2 : Int) := wraps62 _ (by omega) (by omega)
  have q3 : IntKind.i64.wrap (v3 : Int) = (v3 : Int) := wraps62 _ (by omega) (by omega)
  have q4 : IntKind.i64.wrap (al : Int) = (al : Int) := wraps62 _ (by omega) (by omega)
  rw [q1, q2, q3, e2, q4]
  have d6' := d6 l
  clear q1 q2 q3 q4 e1 e2 d0 d2 d3 d6 hc0
  go_wp2_with fail
  go_ret
  exact ⟨rfl, l.hb⟩
set_option maxRecDepth 4000 in
set_option maxHeartbeats 2000000 in
theorem why_header2 (A : Option Addr) (n c : Nat) (xs : List UInt8) (w : World) (hx : IsB w w.heap.size A n xs) (hnc : n ≤ c) (hnm : n ≤ 300) (h : 20 ≤ n) (hv : (xs.getD 0 0).toNat / 16 = 4) (s : Nat) (hs : (xs.getD 0 0).toNat % 16 * 4 = s) (h5 : 20 ≤ s) (h6 : n < s) :
    Calls Try.prog 46 #[.slice A n c] w fun e w' => e = .returned (.int .i64 11) ∧ Below w.heap.size w w' := by
  obtain ⟨b, off, v0, rfl, hbl, hv0, hv0l, hc0⟩ := hx.byte (i := 0) (by omega)
  obtain ⟨v2, hv2, hv2l, hc2⟩ := hx.byteAt (i := 2) (by omega)
  obtain ⟨v3, hv3, hv3l, hc3⟩ := hx.byteAt (i := 3) (by omega)
  obtain ⟨v6, hv6, hv6l, hc6⟩ := hx.byteAt (i := 6) (by omega)
  rw [Nat.add_zero] at hc0
  rw [hv0] at hv hs
  have hal : beN xs 2 2 = v2 * 256 + v3 := by
    simp only [beN, Nat.zero_mul, Nat.zero_add]
    rw [show 2 + 0 = 2 by rfl, show 2 + 1 = 3 by rfl, hv2, hv3]
  have hfl : beN xs 6 2 / 32768 = v6 / 128 := by
    have h7 := (xs.getD 7 0).toNat_lt
    simp only [beN, Nat.zero_mul, Nat.zero_add]
    rw [show 6 + 0 = 6 by rfl, show 6 + 1 = 7 by rfl, hv6]
    omega
  obtain ⟨al, hal2⟩ : ∃ al, v2 * 256 + v3 = al := ⟨_, rfl⟩
  have d0 : ∀ l : Later w, l.w.cell? ⟨b, off, none⟩ = some (.int .u8 (v0 : Nat)) := fun l => l.cell hc0
  have d2 : ∀ l : Later w, l.w.cell? ⟨b, off + 2, none⟩ = some (.int .u8 (v2 : Nat)) := fun l => l.cell hc2
  have d3 : ∀ l : Later w, l.w.cell? ⟨b, off + 3, none⟩ = some (.int .u8 (v3 : Nat)) := fun l => l.cell hc3
  have d6 : ∀ l : Later w, l.w.cell? ⟨b, off + 6, none⟩ = some (.int .u8 (v6 : Nat)) := fun l => l.cell hc6
  clear hc2 hc3 hc6
  have i0 : 0 < n := by omega
  have i2 : 2 < n := by omega
  have i3 : 3 < n := by omega
  have i6 : 6 < n := by omega
  have k2 : (2 : Int) < (n : Int) := by omega
  have k3 : (3 : Int) < (n : Int) := by omega
  have k6 : (6 : Int) < (n : Int) := by omega
  have hb : (((v0 : Int) / 16) != 4) = false := by rw [bne_eq_false_iff_eq]; omega
  have e1 : (v0 : Int) % 16 * 4 = (s : Int) := by omega
  have e2 : 256 * (v2 : Int) + (v3 : Int) = (al : Int) := by omega
  have hs60 : s ≤ 60 := by omega
  replace hal := hide hal
  replace hal2 := hide hal2
  replace hfl := hide hfl
  replace hs := hide hs
  replace hv := hide hv
  replace hv0 := hide hv0
  replace hv2 := hide hv2
  replace hv3 := hide hv3
  replace hv6 := hide hv6
  replace hx := hide hx
  have t1 : ¬ (s : Int) < 20 := by omega
  have t2 : (n : Int) < (s : Int) := by omega
  go_enter Try.func46, Try.ntmps46
  go_wp2_with fail
  have q0 : (IntKind.i64.wrap ((v0 : Int) % 16)) = (v0 : Int) % 16 := wraps62 _ (by omega) (by omega)
  (try rw [q0])
  (try rw [e1])
  clear q0
  refine wp_region_later (by kernel_rfl) (by kernel_rfl) ?_
  repeat (refine wpQuiet_step (fun K hK => ?_); go_simp; refine hK _ ?_; clear hK K)
  refine wpQuiet_nil ?_
  intro l
  have q1 : IntKind.i64.wrap (v2 : Int) = (v2 : Int) := wraps62 _ (by omega) (by omega)
  have q2 : IntKind.i64.wrap (256 * (v2 : Int)) = 256 * (v2 : Int) := wraps62 _ (by omega) (by omega)
  have q3 : IntKind.i64.wrap (v3 : Int) = (v3 : Int) := wraps62 _ (by omega) (by omega)
  have q4 : IntKind.i64.wrap (al : Int) = (al : Int) := wraps62 _ (by omega) (by omega)
  rw [q1, q2, q3, e2, q4]
  have d6' := d6 l
  clear q1 q2 q3 q4 e1 e2 d0 d2 d3 d6 hc0
  go_wp2_with fail
  go_ret
  exact ⟨rfl, l.hb⟩
set_option maxRecDepth 4000 in
set_option maxHeartbeats 2000000 in
theorem why_header3 (A : Option Addr) (n c : Nat) (xs : List UInt8) (w : World) (hx : IsB w w.heap.size A n xs) (hnc : n ≤ c) (hnm : n ≤ 300) (h : 20 ≤ n) (hv : (xs.getD 0 0).toNat / 16 = 4) (s : Nat) (hs : (xs.getD 0 0).toNat % 16 * 4 = s) (h5 : 20 ≤ s) (h6 : s ≤ n) (h7 : beN xs 6 2 / 32768 ≠ 0) :
    Calls Try.prog 46 #[.slice A n c] w fun e w' => e = .returned (.int .i64 11) ∧ Below w.heap.size w w' := by
  obtain ⟨b, off, v0, rfl, hbl, hv0, hv0l, hc0⟩ := hx.byte (i := 0) (by omega)
  obtain ⟨v2, hv2, hv2l, hc2⟩ := hx.byteAt (i := 2) (by omega)
  obtain ⟨v3, hv3, hv3l, hc3⟩ := hx.byteAt (i := 3) (by omega)
  obtain ⟨v6, hv6, hv6l, hc6⟩ := hx.byteAt (i := 6) (by omega)
  rw [Nat.add_zero] at hc0
  rw [hv0] at hv hs
  have hal : beN xs 2 2 = v2 * 256 + v3 := by
    simp only [beN, Nat.zero_mul, Nat.zero_add]
    rw [show 2 + 0 = 2 by rfl, show 2 + 1 = 3 by rfl, hv2, hv3]
  have hfl : beN xs 6 2 / 32768 = v6 / 128 := by
    have h7 := (xs.getD 7 0).toNat_lt
    simp only [beN, Nat.zero_mul, Nat.zero_add]
    rw [show 6 + 0 = 6 by rfl, show 6 + 1 = 7 by rfl, hv6]
    omega
  obtain ⟨al, hal2⟩ : ∃ al, v2 * 256 + v3 = al := ⟨_, rfl⟩
  have d0 : ∀ l : Later w, l.w.cell? ⟨b, off, none⟩ = some (.int .u8 (v0 : Nat)) := fun l => l.cell hc0
  have d2 : ∀ l : Later w, l.w.cell? ⟨b, off + 2, none⟩ = some (.int .u8 (v2 : Nat)) := fun l => l.cell hc2
  have d3 : ∀ l : Later w, l.w.cell? ⟨b, off + 3, none⟩ = some (.int .u8 (v3 : Nat)) := fun l => l.cell hc3
  have d6 : ∀ l : Later w, l.w.cell? ⟨b, off + 6, none⟩ = some (.int .u8 (v6 : Nat)) := fun l => l.cell hc6
  clear hc2 hc3 hc6
  have i0 : 0 < n := by omega
  have i2 : 2 < n := by omega
  have i3 : 3 < n := by omega
  have i6 : 6 < n := by omega
  have k2 : (2 : Int) < (n : Int) := by omega
  have k3 : (3 : Int) < (n : Int) := by omega
  have k6 : (6 : Int) < (n : Int) := by omega
  have hb : (((v0 : Int) / 16) != 4) = false := by rw [bne_eq_false_iff_eq]; omega
  have e1 : (v0 : Int) % 16 * 4 = (s : Int) := by omega
  have e2 : 256 * (v2 : Int) + (v3 : Int) = (al : Int) := by omega
  have hs60 : s ≤ 60 := by omega
  replace hal := hide hal
  replace hal2 := hide hal2
  replace hfl := hide hfl
  replace hs := hide hs
  replace hv := hide hv
  replace hv0 := hide hv0
  replace hv2 := hide hv2
  replace hv3 := hide hv3
  replace hv6 := hide hv6
  replace hx := hide hx
  have t1 : ¬ (s : Int) < 20 := by omega
  have t2 : ¬ (n : Int) < (s : Int) := by omega
  rw [hfl.out] at h7
  have t3 : (128 : Int) ≤ (v6 : Int) := by omega
  go_enter Try.func46, Try.ntmps46
  go_wp2_with fail
  have q0 : (IntKind.i64.wrap ((v0 : Int) % 16)) = (v0 : Int) % 16 := wraps62 _ (by omega) (by omega)
  (try rw [q0])
  (try rw [e1])
  clear q0
  refine wp_region_later (by kernel_rfl) (by kernel_rfl) ?_
  repeat (refine wpQuiet_step (fun K hK => ?_); go_simp; refine hK _ ?_; clear hK K)
  refine wpQuiet_nil ?_
  intro l
  have q1 : IntKind.i64.wrap (v2 : Int) = (v2 : Int) := wraps62 _ (by omega) (by omega)
  have q2 : IntKind.i64.wrap (256 * (v2 : Int)) = 256 * (v2 : Int) := wraps62 _ (by omega) (by omega)
  have q3 : IntKind.i64.wrap (v3 : Int) = (v3 : Int) := wraps62 _ (by omega) (by omega)
  have q4 : IntKind.i64.wrap (al : Int) = (al : Int) := wraps62 _ (by omega) (by omega)
  rw [q1, q2, q3, e2, q4]
  have d6' := d6 l
  clear q1 q2 q3 q4 e1 e2 d0 d2 d3 d6 hc0
  go_wp2_with fail
  go_ret
  exact ⟨rfl, l.hb⟩
set_option maxRecDepth 4000 in
set_option maxHeartbeats 2000000 in
theorem why_length1 (A : Option Addr) (n c : Nat) (xs : List UInt8) (w : World) (hx : IsB w w.heap.size A n xs) (hnc : n ≤ c) (hnm : n ≤ 300) (h : 20 ≤ n) (hv : (xs.getD 0 0).toNat / 16 = 4) (s : Nat) (hs : (xs.getD 0 0).toNat % 16 * 4 = s) (h5 : 20 ≤ s) (h6 : s ≤ n) (h7 : beN xs 6 2 / 32768 = 0) (h8 : beN xs 2 2 < s) :
    Calls Try.prog 46 #[.slice A n c] w fun e w' => e = .returned (.int .i64 12) ∧ Below w.heap.size w w' := by
  obtain ⟨b, off, v0, rfl, hbl, hv0, hv0l, hc0⟩ := hx.byte (i := 0) (by omega)
  obtain ⟨v2, hv2, hv2l, hc2⟩ := hx.byteAt (i := 2) (by omega)
  obtain ⟨v3, hv3, hv3l, hc3⟩ := hx.byteAt (i := 3) (by omega)
  obtain ⟨v6, hv6, hv6l, hc6⟩ := hx.byteAt (i := 6) (by omega)
  rw [Nat.add_zero] at hc0
  rw [hv0] at hv hs
  have hal : beN xs 2 2 = v2 * 256 + v3 := by
    simp only [beN, Nat.zero_mul, Nat.zero_add]
    rw [show 2 + 0 = 2 by rfl, show 2 + 1 = 3 by rfl, hv2, hv3]
  have hfl : beN xs 6 2 / 32768 = v6 / 128 := by
    have h7 := (xs.getD 7 0).toNat_lt
    simp only [beN, Nat.zero_mul, Nat.zero_add]
    rw [show 6 + 0 = 6 by rfl, show 6 + 1 = 7 by rfl, hv6]
    omega
  obtain ⟨al, hal2⟩ : ∃ al, v2 * 256 + v3 = al := ⟨_, rfl⟩
  have d0 : ∀ l : Later w, l.w.cell? ⟨b, off, none⟩ = some (.int .u8 (v0 : Nat)) := fun l => l.cell hc0
  have d2 : ∀ l : Later w, l.w.cell? ⟨b, off + 2, none⟩ = some (.int .u8 (v2 : Nat)) := fun l => l.cell hc2
  have d3 : ∀ l : Later w, l.w.cell? ⟨b, off + 3, none⟩ = some (.int .u8 (v3 : Nat)) := fun l => l.cell hc3
  have d6 : ∀ l : Later w, l.w.cell? ⟨b, off + 6, none⟩ = some (.int .u8 (v6 : Nat)) := fun l => l.cell hc6
  clear hc2 hc3 hc6
  have i0 : 0 < n := by omega
  have i2 : 2 < n := by omega
  have i3 : 3 < n := by omega
  have i6 : 6 < n := by omega
  have k2 : (2 : Int) < (n : Int) := by omega
  have k3 : (3 : Int) < (n : Int) := by omega
  have k6 : (6 : Int) < (n : Int) := by omega
  have hb : (((v0 : Int) / 16) != 4) = false := by rw [bne_eq_false_iff_eq]; omega
  have e1 : (v0 : Int) % 16 * 4 = (s : Int) := by omega
  have e2 : 256 * (v2 : Int) + (v3 : Int) = (al : Int) := by omega
  have hs60 : s ≤ 60 := by omega
  rw [hal, hal2] at h8
  replace hal := hide hal
  replace hal2 := hide hal2
  replace hfl := hide hfl
  replace hs := hide hs
  replace hv := hide hv
  replace hv0 := hide hv0
  replace hv2 := hide hv2
  replace hv3 := hide hv3
  replace hv6 := hide hv6
  replace hx := hide hx
  have t1 : ¬ (s : Int) < 20 := by omega
  have t2 : ¬ (n : Int) < (s : Int) := by omega
  rw [hfl.out] at h7
  have t3 : ¬ (128 : Int) ≤ (v6 : Int) := by omega
  have t4 : (al : Int) < (s : Int) := by omega
  go_enter Try.func46, Try.ntmps46
  go_wp2_with fail
  have q0 : (IntKind.i64.wrap ((v0 : Int) % 16)) = (v0 : Int) % 16 := wraps62 _ (by omega) (by omega)
  (try rw [q0])
  (try rw [e1])
  clear q0
  refine wp_region_later (by kernel_rfl) (by kernel_rfl) ?_
  repeat (refine wpQuiet_step (fun K hK => ?_); go_simp; refine hK _ ?_; clear hK K)
  refine wpQuiet_nil ?_
  intro l
  have q1 : IntKind.i64.wrap (v2 : Int) = (v2 : Int) := wraps62 _ (by omega) (by omega)
  have q2 : IntKind.i64.wrap (256 * (v2 : Int)) = 256 * (v2 : Int) := wraps62 _ (by omega) (by omega)
  have q3 : IntKind.i64.wrap (v3 : Int) = (v3 : Int) := wraps62 _ (by omega) (by omega)
  have q4 : IntKind.i64.wrap (al : Int) = (al : Int) := wraps62 _ (by omega) (by omega)
  rw [q1, q2, q3, e2, q4]
  have d6' := d6 l
  clear q1 q2 q3 q4 e1 e2 d0 d2 d3 d6 hc0
  go_wp2_with fail
  go_ret
  exact ⟨rfl, l.hb⟩
set_option maxRecDepth 4000 in
set_option maxHeartbeats 2000000 in
theorem why_length2 (A : Option Addr) (n c : Nat) (xs : List UInt8) (w : World) (hx : IsB w w.heap.size A n xs) (hnc : n ≤ c) (hnm : n ≤ 300) (h : 20 ≤ n) (hv : (xs.getD 0 0).toNat / 16 = 4) (s : Nat) (hs : (xs.getD 0 0).toNat % 16 * 4 = s) (h5 : 20 ≤ s) (h6 : s ≤ n) (h7 : beN xs 6 2 / 32768 = 0) (h8 : s ≤ beN xs 2 2) (h9 : n < beN xs 2 2) :
    Calls Try.prog 46 #[.slice A n c] w fun e w' => e = .returned (.int .i64 12) ∧ Below w.heap.size w w' := by
  obtain ⟨b, off, v0, rfl, hbl, hv0, hv0l, hc0⟩ := hx.byte (i := 0) (by omega)
  obtain ⟨v2, hv2, hv2l, hc2⟩ := hx.byteAt (i := 2) (by omega)
  obtain ⟨v3, hv3, hv3l, hc3⟩ := hx.byteAt (i := 3) (by omega)
  obtain ⟨v6, hv6, hv6l, hc6⟩ := hx.byteAt (i := 6) (by omega)
  rw [Nat.add_zero] at hc0
  rw [hv0] at hv hs
  have hal : beN xs 2 2 = v2 * 256 + v3 := by
    simp only [beN, Nat.zero_mul, Nat.zero_add]
    rw [show 2 + 0 = 2 by rfl, show 2 + 1 = 3 by rfl, hv2, hv3]
  have hfl : beN xs 6 2 / 32768 = v6 / 128 := by
    have h7 := (xs.getD 7 0).toNat_lt
    simp only [beN, Nat.zero_mul, Nat.zero_add]
    rw [show 6 + 0 = 6 by rfl, show 6 + 1 = 7 by rfl, hv6]
    omega
  obtain ⟨al, hal2⟩ : ∃ al, v2 * 256 + v3 = al := ⟨_, rfl⟩
  have d0 : ∀ l : Later w, l.w.cell? ⟨b, off, none⟩ = some (.int .u8 (v0 : Nat)) := fun l => l.cell hc0
  have d2 : ∀ l : Later w, l.w.cell? ⟨b, off + 2, none⟩ = some (.int .u8 (v2 : Nat)) := fun l => l.cell hc2
  have d3 : ∀ l : Later w, l.w.cell? ⟨b, off + 3, none⟩ = some (.int .u8 (v3 : Nat)) := fun l => l.cell hc3
  have d6 : ∀ l : Later w, l.w.cell? ⟨b, off + 6, none⟩ = some (.int .u8 (v6 : Nat)) := fun l => l.cell hc6
  clear hc2 hc3 hc6
  have i0 : 0 < n := by omega
  have i2 : 2 < n := by omega
  have i3 : 3 < n := by omega
  have i6 : 6 < n := by omega
  have k2 : (2 : Int) < (n : Int) := by omega
  have k3 : (3 : Int) < (n : Int) := by omega
  have k6 : (6 : Int) < (n : Int) := by omega
  have hb : (((v0 : Int) / 16) != 4) = false := by rw [bne_eq_false_iff_eq]; omega
  have e1 : (v0 : Int) % 16 * 4 = (s : Int) := by omega
  have e2 : 256 * (v2 : Int) + (v3 : Int) = (al : Int) := by omega
  have hs60 : s ≤ 60 := by omega
  rw [hal, hal2] at h8 h9
  replace hal := hide hal
  replace hal2 := hide hal2
  replace hfl := hide hfl
  replace hs := hide hs
  replace hv := hide hv
  replace hv0 := hide hv0
  replace hv2 := hide hv2
  replace hv3 := hide hv3
  replace hv6 := hide hv6
  replace hx := hide hx
  have t1 : ¬ (s : Int) < 20 := by omega
  have t2 : ¬ (n : Int) < (s : Int) := by omega
  rw [hfl.out] at h7
  have t3 : ¬ (128 : Int) ≤ (v6 : Int) := by omega
  have t4 : ¬ (al : Int) < (s : Int) := by omega
  have t5 : (n : Int) < (al : Int) := by omega
  go_enter Try.func46, Try.ntmps46
  go_wp2_with fail
  have q0 : (IntKind.i64.wrap ((v0 : Int) % 16)) = (v0 : Int) % 16 := wraps62 _ (by omega) (by omega)
  (try rw [q0])
  (try rw [e1])
  clear q0
  refine wp_region_later (by kernel_rfl) (by kernel_rfl) ?_
  repeat (refine wpQuiet_step (fun K hK => ?_); go_simp; refine hK _ ?_; clear hK K)
  refine wpQuiet_nil ?_
  intro l
  have q1 : IntKind.i64.wrap (v2 : Int) = (v2 : Int) := wraps62 _ (by omega) (by omega)
  have q2 : IntKind.i64.wrap (256 * (v2 : Int)) = 256 * (v2 : Int) := wraps62 _ (by omega) (by omega)
  have q3 : IntKind.i64.wrap (v3 : Int) = (v3 : Int) := wraps62 _ (by omega) (by omega)
  have q4 : IntKind.i64.wrap (al : Int) = (al : Int) := wraps62 _ (by omega) (by omega)
  rw [q1, q2, q3, e2, q4]
  have d6' := d6 l
  clear q1 q2 q3 q4 e1 e2 d0 d2 d3 d6 hc0
  go_wp2_with fail
  go_ret
  exact ⟨rfl, l.hb⟩
set_option maxRecDepth 4000 in
set_option maxHeartbeats 2000000 in
theorem why_sum (A : Option Addr) (n c : Nat) (xs : List UInt8) (w : World) (hx : IsB w w.heap.size A n xs) (hnc : n ≤ c) (hnm : n ≤ 300) (h : 20 ≤ n) (hv : (xs.getD 0 0).toNat / 16 = 4) (s : Nat) (hs : (xs.getD 0 0).toNat % 16 * 4 = s) (h5 : 20 ≤ s) (h6 : s ≤ n) (h7 : beN xs 6 2 / 32768 = 0) (h8 : s ≤ beN xs 2 2) (h9 : beN xs 2 2 ≤ n) (h10 : Sum.ones (Sum.tot false (xs.take s)) ≠ 65535) :
    Calls Try.prog 46 #[.slice A n c] w fun e w' => e = .returned (.int .i64 13) ∧ Below w.heap.size w w' := by
  obtain ⟨b, off, v0, rfl, hbl, hv0, hv0l, hc0⟩ := hx.byte (i := 0) (by omega)
  obtain ⟨v2, hv2, hv2l, hc2⟩ := hx.byteAt (i := 2) (by omega)
  obtain ⟨v3, hv3, hv3l, hc3⟩ := hx.byteAt (i := 3) (by omega)
  obtain ⟨v6, hv6, hv6l, hc6⟩ := hx.byteAt (i := 6) (by omega)
  rw [Nat.add_zero] at hc0
  rw [hv0] at hv hs
  have hal : beN xs 2 2 = v2 * 256 + v3 := by
    simp only [beN, Nat.zero_mul, Nat.zero_add]
    rw [show 2 + 0 = 2 by rfl, show 2 + 1 = 3 by rfl, hv2, hv3]
  have hfl : beN xs 6 2 / 32768 = v6 / 128 := by
    have h7 := (xs.getD 7 0).toNat_lt
    simp only [beN, Nat.zero_mul, Nat.zero_add]
    rw [show 6 + 0 = 6 by rfl, show 6 + 1 = 7 by rfl, hv6]
    omega
  obtain ⟨al, hal2⟩ : ∃ al, v2 * 256 + v3 = al := ⟨_, rfl⟩
  have d0 : ∀ l : Later w, l.w.cell? ⟨b, off, none⟩ = some (.int .u8 (v0 : Nat)) := fun l => l.cell hc0
  have d2 : ∀ l : Later w, l.w.cell? ⟨b, off + 2, none⟩ = some (.int .u8 (v2 : Nat)) := fun l => l.cell hc2
  have d3 : ∀ l : Later w, l.w.cell? ⟨b, off + 3, none⟩ = some (.int .u8 (v3 : Nat)) := fun l => l.cell hc3
  have d6 : ∀ l : Later w, l.w.cell? ⟨b, off + 6, none⟩ = some (.int .u8 (v6 : Nat)) := fun l => l.cell hc6
  clear hc2 hc3 hc6
  have i0 : 0 < n := by omega
  have i2 : 2 < n := by omega
  have i3 : 3 < n := by omega
  have i6 : 6 < n := by omega
  have k2 : (2 : Int) < (n : Int) := by omega
  have k3 : (3 : Int) < (n : Int) := by omega
  have k6 : (6 : Int) < (n : Int) := by omega
  have hb : (((v0 : Int) / 16) != 4) = false := by rw [bne_eq_false_iff_eq]; omega
  have e1 : (v0 : Int) % 16 * 4 = (s : Int) := by omega
  have e2 : 256 * (v2 : Int) + (v3 : Int) = (al : Int) := by omega
  have hs60 : s ≤ 60 := by omega
  rw [hal, hal2] at h8 h9
  replace hal := hide hal
  replace hal2 := hide hal2
  replace hfl := hide hfl
  replace hs := hide hs
  replace hv := hide hv
  replace hv0 := hide hv0
  replace hv2 := hide hv2
  replace hv3 := hide hv3
  replace hv6 := hide hv6
  replace hx := hide hx
  have t1 : ¬ (s : Int) < 20 := by omega
  have t2 : ¬ (n : Int) < (s : Int) := by omega
  rw [hfl.out] at h7
  have t3 : ¬ (128 : Int) ≤ (v6 : Int) := by omega
  have t4 : ¬ (al : Int) < (s : Int) := by omega
  have t5 : ¬ (n : Int) < (al : Int) := by omega
  have hne : (((Sum.ones (Sum.tot false (xs.take s)) : Nat) : Int) != 65535) = true := by rw [bne_iff_ne]; omega
  clear h10
  go_enter Try.func46, Try.ntmps46
  go_wp2_with fail
  have q0 : (IntKind.i64.wrap ((v0 : Int) % 16)) = (v0 : Int) % 16 := wraps62 _ (by omega) (by omega)
  (try rw [q0])
  (try rw [e1])
  clear q0
  refine wp_region_later (by kernel_rfl) (by kernel_rfl) ?_
  repeat (refine wpQuiet_step (fun K hK => ?_); go_simp; refine hK _ ?_; clear hK K)
  refine wpQuiet_nil ?_
  intro l
  have q1 : IntKind.i64.wrap (v2 : Int) = (v2 : Int) := wraps62 _ (by omega) (by omega)
  have q2 : IntKind.i64.wrap (256 * (v2 : Int)) = 256 * (v2 : Int) := wraps62 _ (by omega) (by omega)
  have q3 : IntKind.i64.wrap (v3 : Int) = (v3 : Int) := wraps62 _ (by omega) (by omega)
  have q4 : IntKind.i64.wrap (al : Int) = (al : Int) := wraps62 _ (by omega) (by omega)
  rw [q1, q2, q3, e2, q4]
  have d6' := d6 l
  clear q1 q2 q3 q4 e1 e2 d0 d2 d3 d6 hc0
  have hxs := (hx.out.later l).take (m := s) h6
  replace hxs := hide hxs
  have jsc : s ≤ c := by omega
  have k0s : (0 : Int) ≤ (s : Int) := by omega
  have ksc : (s : Int) ≤ (c : Int) := by omega
  go_wp2_with fail
  refine (Sum.refOf_any _ _ _ (xs.take s) _ hxs.out (by omega)).mono ?_
  rintro e w4 ⟨rfl, hb4⟩
  go_wp2_with fail
  go_ret
  exact ⟨rfl, l.hb.trans (hb4.mono l.hb.size)⟩
set_option maxRecDepth 4000 in
set_option maxHeartbeats 2000000 in
theorem why_ok (A : Option Addr) (n c : Nat) (xs : List UInt8) (w : World) (hx : IsB w w.heap.size A n xs) (hnc : n ≤ c) (hnm : n ≤ 300) (h : 20 ≤ n) (hv : (xs.getD 0 0).toNat / 16 = 4) (s : Nat) (hs : (xs.getD 0 0).toNat % 16 * 4 = s) (h5 : 20 ≤ s) (h6 : s ≤ n) (h7 : beN xs 6 2 / 32768 = 0) (h8 : s ≤ beN xs 2 2) (h9 : beN xs 2 2 ≤ n) (h10 : Sum.ones (Sum.tot false (xs.take s)) = 65535) :
    Calls Try.prog 46 #[.slice A n c] w fun e w' => e = .returned (.int .i64 0) ∧ Below w.heap.size w w' := by
  obtain ⟨b, off, v0, rfl, hbl, hv0, hv0l, hc0⟩ := hx.byte (i := 0) (by omega)
  obtain ⟨v2, hv2, hv2l, hc2⟩ := hx.byteAt (i := 2) (by omega)
  obtain ⟨v3, hv3, hv3l, hc3⟩ := hx.byteAt (i := 3) (by omega)
  obtain ⟨v6, hv6, hv6l, hc6⟩ := hx.byteAt (i := 6) (by omega)
  rw [Nat.add_zero] at hc0
  rw [hv0] at hv hs
  have hal : beN xs 2 2 = v2 * 256 + v3 := by
    simp only [beN, Nat.zero_mul, Nat.zero_add]
    rw [show 2 + 0 = 2 by rfl, show 2 + 1 = 3 by rfl, hv2, hv3]
  have hfl : beN xs 6 2 / 32768 = v6 / 128 := by
    have h7 := (xs.getD 7 0).toNat_lt
    simp only [beN, Nat.zero_mul, Nat.zero_add]
    rw [show 6 + 0 = 6 by rfl, show 6 + 1 = 7 by rfl, hv6]
    omega
  obtain ⟨al, hal2⟩ : ∃ al, v2 * 256 + v3 = al := ⟨_, rfl⟩
  have d0 : ∀ l : Later w, l.w.cell? ⟨b, off, none⟩ = some (.int .u8 (v0 : Nat)) := fun l => l.cell hc0
  have d2 : ∀ l : Later w, l.w.cell? ⟨b, off + 2, none⟩ = some (.int .u8 (v2 : Nat)) := fun l => l.cell hc2
  have d3 : ∀ l : Later w, l.w.cell? ⟨b, off + 3, none⟩ = some (.int .u8 (v3 : Nat)) := fun l => l.cell hc3
  have d6 : ∀ l : Later w, l.w.cell? ⟨b, off + 6, none⟩ = some (.int .u8 (v6 : Nat)) := fun l => l.cell hc6
  clear hc2 hc3 hc6
  have i0 : 0 < n := by omega
  have i2 : 2 < n := by omega
  have i3 : 3 < n := by omega
  have i6 : 6 < n := by omega
  have k2 : (2 : Int) < (n : Int) := by omega
  have k3 : (3 : Int) < (n : Int) := by omega
  have k6 : (6 : Int) < (n : Int) := by omega
  have hb : (((v0 : Int) / 16) != 4) = false := by rw [bne_eq_false_iff_eq]; omega
  have e1 : (v0 : Int) % 16 * 4 = (s : Int) := by omega
  have e2 : 256 * (v2 : Int) + (v3 : Int) = (al : Int) := by omega
  have hs60 : s ≤ 60 := by omega
  rw [hal, hal2] at h8 h9
  replace hal := hide hal
  replace hal2 := hide hal2
  replace hfl := hide hfl
  replace hs := hide hs
  replace hv := hide hv
  replace hv0 := hide hv0
  replace hv2 := hide hv2
  replace hv3 := hide hv3
  replace hv6 := hide hv6
  replace hx := hide hx
  have t1 : ¬ (s : Int) < 20 := by omega
  have t2 : ¬ (n : Int) < (s : Int) := by omega
  rw [hfl.out] at h7
  have t3 : ¬ (128 : Int) ≤ (v6 : Int) := by omega
  have t4 : ¬ (al : Int) < (s : Int) := by omega
  have t5 : ¬ (n : Int) < (al : Int) := by omega
  have hne : (((Sum.ones (Sum.tot false (xs.take s)) : Nat) : Int) != 65535) = false := by rw [bne_eq_false_iff_eq]; omega
  clear h10
  go_enter Try.func46, Try.ntmps46
  go_wp2_with fail
  have q0 : (IntKind.i64.wrap ((v0 : Int) % 16)) = (v0 : Int) % 16 := wraps62 _ (by omega) (by omega)
  (try rw [q0])
  (try rw [e1])
  clear q0
  refine wp_region_later (by kernel_rfl) (by kernel_rfl) ?_
  repeat (refine wpQuiet_step (fun K hK => ?_); go_simp; refine hK _ ?_; clear hK K)
  refine wpQuiet_nil ?_
  intro l
  have q1 : IntKind.i64.wrap (v2 : Int) = (v2 : Int) := wraps62 _ (by omega) (by omega)
  have q2 : IntKind.i64.wrap (256 * (v2 : Int)) = 256 * (v2 : Int) := wraps62 _ (by omega) (by omega)
  have q3 : IntKind.i64.wrap (v3 : Int) = (v3 : Int) := wraps62 _ (by omega) (by omega)
  have q4 : IntKind.i64.wrap (al : Int) = (al : Int) := wraps62 _ (by omega) (by omega)
  rw [q1, q2, q3, e2, q4]
  have d6' := d6 l
  clear q1 q2 q3 q4 e1 e2 d0 d2 d3 d6 hc0
  have hxs := (hx.out.later l).take (m := s) h6
  replace hxs := hide hxs
  have jsc : s ≤ c := by omega
  have k0s : (0 : Int) ≤ (s : Int) := by omega
  have ksc : (s : Int) ≤ (c : Int) := by omega
  go_wp2_with fail
  refine (Sum.refOf_any _ _ _ (xs.take s) _ hxs.out (by omega)).mono ?_
  rintro e w4 ⟨rfl, hb4⟩
  go_wp2_with fail
  go_ret
  exact ⟨rfl, l.hb.trans (hb4.mono l.hb.size)⟩
end Four
end Go.Proofs.Ytniieckjooahfaa
