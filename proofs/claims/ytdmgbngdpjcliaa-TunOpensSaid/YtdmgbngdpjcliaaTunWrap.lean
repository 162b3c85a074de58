/- tun.Wrap and tun.Over by contract. Conditions: slices of bytes that read as lists, at most 4096 bytes. -/
import Derived.Test.YtdmgbngdpjcliaaTunOpen
import Derived.Test.YtdmgbngdpjcliaaFourBytes
import Derived.Test.YtdmgbngdpjcliaaSixPutsPlain
import Derived.Test.YtdmgbngdpjcliaaSixSame
namespace Go.Proofs.Ytdmgbngdpjcliaa
open Go.RowKit Go.ChangeShapes Go.WideShapes Go.ChangeAt Go.Deep
namespace Tun
theorem over_any (v6 : Bool) (w : World) : Calls Try.prog 25 #[.bool v6] w fun e w' => e = .returned (.int .i64 (if v6 then 40 else 20)) ∧ w = w' := by
  rcases v6 with _ | _
  · go_enter Try.func25, Try.ntmps25
    go_wp2_with fail
    go_ret
    exact ⟨rfl, rfl⟩
  · go_enter Try.func25, Try.ntmps25
    go_wp2_with fail
    go_ret
    exact ⟨rfl, rfl⟩
/-- Why a packet can't be put into another one; 0: it can. -/
def wrapK (n : Nat) (xs : List UInt8) (sv : Bool) (shi slo : Int) (dv : Bool) (dhi dlo : Int) : Nat :=
  if innerK n xs ≠ 0 then innerK n xs else if sv ≠ dv ∨ Four.okA sv shi slo = false ∨ Four.okA dv dhi dlo = false then 18 else 0
set_option maxRecDepth 20000 in
set_option maxHeartbeats 4000000 in
theorem wrap_no (sv : Bool) (shi slo : Int) (dv : Bool) (dhi dlo : Int) (A : Option Addr) (n c : Nat) (xs : List UInt8) (w : World) (hx : IsB w w.heap.size A n xs) (hn : n ≤ 4096) (K : Nat) (hK : wrapK n xs sv shi slo dv dhi dlo = K) (hK0 : K ≠ 0) :
    Calls Try.prog 20 #[addrV sv shi slo, addrV dv dhi dlo, .slice A n c] w fun e w' => e = .returned (.tuple #[.slice none 0 0, .int .i64 (K : Int)]) ∧ Below w.heap.size w w' := by
  obtain ⟨w1, hw1⟩ : ∃ w1, (w.alloc (.cells #[.bool sv, .int .u64 shi, .int .u64 slo] 26)).alloc (.cells #[.bool dv, .int .u64 dhi, .int .u64 dlo] 26) = w1 := ⟨_, rfl⟩
  have hb1 : Below w.heap.size w w1 := hw1 ▸ ((Below.refl _ _).alloc (Nat.le_refl _) _).alloc (by simp) _
  have hgs : w1.heap[w.heap.size]? = some (.cells #[.bool sv, .int .u64 shi, .int .u64 slo] 26 (0, 0)) := hw1 ▸ blk_old _ (by simp) (blk_new _ _ _)
  have hgd : w1.heap[w.heap.size + 1]? = some (.cells #[.bool dv, .int .u64 dhi, .int .u64 dlo] 26 (0, 0)) := hw1 ▸ (by simpa using blk_new (w.alloc (.cells #[.bool sv, .int .u64 shi, .int .u64 slo] 26)) 26 #[.bool dv, .int .u64 dhi, .int .u64 dlo])
  have hz1 : w.heap.size + 1 < w1.heap.size := by rw [← hw1]; simp
  have hx1 := hx.on hb1
  have hcs := blk_cell hgs
  have hcd := blk_cell hgd
  obtain ⟨p, hp⟩ : ∃ p, innerP xs = p := ⟨_, rfl⟩
  obtain ⟨k, hk⟩ : ∃ k, innerK n xs = k := ⟨_, rfl⟩
  unfold wrapK at hK
  rw [hk] at hK
  have hnm : n ≤ maxLen := by unfold maxLen; omega
  replace hx := hide hx
  replace hx1 := hide hx1
  replace hb1 := hide hb1
  replace hgs := hide hgs
  replace hgd := hide hgd
  replace hp := hide hp
  replace hk := hide hk
  unfold addrV
  by_cases hk0 : k ≠ 0
  · rw [if_pos hk0] at hK
    subst hK
    have t1 : ((k : Int) != 0) = true := by rw [bne_iff_ne]; omega
    go_enter Try.func20, Try.ntmps20
    go_wp2_with fail
    refine (inner_any A n c xs _ hx1.out hnm p k hp.out hk.out).mono ?_
    rintro e w' ⟨rfl, rfl⟩
    clear hw1
    go_wp2_with fail
    go_ret2
    exact ⟨rfl, hb1.out⟩
  rw [if_neg hk0] at hK
  have t1 : ((k : Int) != 0) = false := by rw [bne_eq_false_iff_eq]; omega
  have hbad : sv ≠ dv ∨ Four.okA sv shi slo = false ∨ Four.okA dv dhi dlo = false := by
    by_cases h : sv ≠ dv ∨ Four.okA sv shi slo = false ∨ Four.okA dv dhi dlo = false
    · exact h
    · rw [if_neg h] at hK
      exact absurd hK.symm hK0
  obtain rfl : K = 18 := by rw [← hK, if_pos hbad]
  clear hK hk0
  by_cases hsd : sv ≠ dv
  · have t2 : (sv != dv) = true := by rw [bne_iff_ne]; exact hsd
    replace hbad := hide hbad
    replace hsd := hide hsd
    go_enter Try.func20, Try.ntmps20
    go_wp2_with fail
    refine (inner_any A n c xs _ hx1.out hnm p k hp.out hk.out).mono ?_
    rintro e w' ⟨rfl, rfl⟩
    clear hw1
    go_wp2_with fail
    go_ret2
    exact ⟨rfl, hb1.out⟩
  obtain rfl : sv = dv := by simpa using hsd
  rcases ha : Four.okA sv shi slo with _ | _
  · replace hbad := hide hbad
    replace ha := hide ha
    clear hsd
    go_enter Try.func20, Try.ntmps20
    go_wp2_with fail
    refine (inner_any A n c xs _ hx1.out hnm p k hp.out hk.out).mono ?_
    rintro e w' ⟨rfl, rfl⟩
    clear hw1
    go_wp2_with fail
    refine (Four.addr_right sv shi slo false _ ha.out).mono ?_
    rintro e w2 ⟨rfl, hb2⟩
    have hB2 := hb1.out.trans (hb2.mono hb1.out.size)
    clear hb2
    replace hB2 := hide hB2
    go_wp2_with fail
    go_ret2
    exact ⟨rfl, hB2.out⟩
  · have hd : Four.okA sv dhi dlo = false := by
      rcases hbad with h | h | h
      · exact absurd rfl h
      · rw [ha] at h; cases h
      · exact h
    replace hbad := hide hbad
    replace ha := hide ha
    replace hd := hide hd
    clear hsd
    go_enter Try.func20, Try.ntmps20
    go_wp2_with fail
    refine (inner_any A n c xs _ hx1.out hnm p k hp.out hk.out).mono ?_
    rintro e w' ⟨rfl, rfl⟩
    clear hw1
    go_wp2_with fail
    refine (Four.addr_right sv shi slo true _ ha.out).mono ?_
    rintro e w2 ⟨rfl, hb2⟩
    have hgd2 := blk_below hb2 hz1 hgd.out
    have hB2 := hb1.out.trans (hb2.mono hb1.out.size)
    clear hb2 hcs hcd
    have hcd := blk_cell hgd2
    replace hB2 := hide hB2
    replace hgd2 := hide hgd2
    go_wp2_with fail
    refine (Four.addr_right sv dhi dlo false _ hd.out).mono ?_
    rintro e w3 ⟨rfl, hb3⟩
    have hB3 := hB2.out.trans (hb3.mono hB2.out.size)
    clear hb3 hcd
    replace hB3 := hide hB3
    go_wp2_with fail
    go_ret2
    exact ⟨rfl, hB3.out⟩
set_option maxRecDepth 20000 in
set_option maxHeartbeats 4000000 in
theorem wrap_six (shi slo dhi dlo : Nat) (A : Option Addr) (n c : Nat) (xs : List UInt8) (w : World) (hx : IsB w w.heap.size A n xs) (hn : n ≤ 4096) (hnc : n ≤ c) (hcm : c ≤ maxLen) (p : Nat) (hp : innerP xs = p) (hk : innerK n xs = 0)
    (b5 : shi < 18446744073709551616) (b6 : slo < 18446744073709551616) (b7 : dhi < 18446744073709551616) (b8 : dlo < 18446744073709551616) (hpp : p = 4 ∨ p = 41) :
    Calls Try.prog 20 #[addrV true shi slo, addrV true dhi dlo, .slice A n c] w fun e w' => ∃ v, e = .returned (.tuple #[v, .int .i64 0]) ∧ OwnB w' w.heap.size v (Six.allB6 0 0 64 shi slo dhi dlo p [] xs) ∧ Below w.heap.size w w' := by
  obtain ⟨w1, hw1⟩ : ∃ w1, (w.alloc (.cells #[.bool true, .int .u64 shi, .int .u64 slo] 26)).alloc (.cells #[.bool true, .int .u64 dhi, .int .u64 dlo] 26) = w1 := ⟨_, rfl⟩
  have hb1 : Below w.heap.size w w1 := hw1 ▸ ((Below.refl _ _).alloc (Nat.le_refl _) _).alloc (by simp) _
  have hgs : w1.heap[w.heap.size]? = some (.cells #[.bool true, .int .u64 shi, .int .u64 slo] 26 (0, 0)) := hw1 ▸ blk_old _ (by simp) (blk_new _ _ _)
  have hgd : w1.heap[w.heap.size + 1]? = some (.cells #[.bool true, .int .u64 dhi, .int .u64 dlo] 26 (0, 0)) := hw1 ▸ (by simpa using blk_new (w.alloc (.cells #[.bool true, .int .u64 shi, .int .u64 slo] 26)) 26 #[.bool true, .int .u64 dhi, .int .u64 dlo])
  have hz1 : w.heap.size + 1 < w1.heap.size := by rw [← hw1]; simp
  have hx1 := hx.on hb1
  have hcs := blk_cell hgs
  have hcd := blk_cell hgd
  have hnm : n ≤ maxLen := by unfold maxLen; omega
  have hp4 : p ≤ 255 := by omega
  have hri : Six.rightHB 0 0 64 true true p (Six.pes []) = true := by
    rcases hpp with rfl | rfl <;> decide
  replace hx := hide hx
  replace hx1 := hide hx1
  replace hb1 := hide hb1
  replace hgs := hide hgs
  replace hgd := hide hgd
  replace hp := hide hp
  replace hk := hide hk
  replace hpp := hide hpp
  replace hri := hide hri
  unfold addrV
  go_enter Try.func20, Try.ntmps20
  go_wp2_with fail
  refine (inner_any A n c xs _ hx1.out hnm p 0 hp.out hk.out).mono ?_
  rintro e w' ⟨rfl, rfl⟩
  clear hw1
  go_wp2_with fail
  refine (Four.addr_right true shi slo true _ rfl).mono ?_
  rintro e w2 ⟨rfl, hb2⟩
  have hgs2 := blk_below hb2 (by omega) hgs.out
  have hgd2 := blk_below hb2 hz1 hgd.out
  have hB2 := hb1.out.trans (hb2.mono hb1.out.size)
  have hz2 : w.heap.size + 1 < w2.heap.size := by have := hb2.size; omega
  have hx2 := hx1.out.on hb2
  clear hb2 hcs hcd
  have hcs := blk_cell hgs2
  have hcd := blk_cell hgd2
  replace hB2 := hide hB2
  replace hgd2 := hide hgd2
  replace hgs2 := hide hgs2
  replace hx2 := hide hx2
  go_wp2_with fail
  refine (Four.addr_right true dhi dlo true _ rfl).mono ?_
  rintro e w3 ⟨rfl, hb3⟩
  have hgs3 := blk_below hb3 (by omega) hgs2.out
  have hgd3 := blk_below hb3 hz2 hgd2.out
  have hB3 := hB2.out.trans (hb3.mono hB2.out.size)
  have hx3 := hx2.out.on hb3
  clear hb3 hcs hcd
  have hcs := blk_cell hgs3
  have hcd := blk_cell hgd3
  replace hB3 := hide hB3
  replace hgd3 := hide hgd3
  replace hgs3 := hide hgs3
  replace hx3 := hide hx3
  go_wp2_with fail
  refine (Six.bytes_any 0 0 64 true shi slo true dhi dlo none 0 0 p [] A n c xs _ (Six.IsX.nil _ _ _) (by omega) (by unfold maxLen; omega) hx3.out hnc hcm rfl rfl (by omega) (by omega) (by omega) hp4 b5 b6 b7 b8 (by omega) hn (fun e he => by cases he) (fun e he => by cases he) hri.out).mono ?_
  rintro e w4 ⟨v, rfl, hown, hb4⟩
  have hB4 := hB3.out.trans (hb4.mono hB3.out.size)
  have hown4 := hown.weaken hB3.out.size
  clear hb4 hown hcs hcd
  replace hB4 := hide hB4
  replace hown4 := hide hown4
  go_wp2_with fail
  go_ret2
  exact ⟨_, rfl, hown4.out, hB4.out⟩
set_option maxRecDepth 20000 in
set_option maxHeartbeats 4000000 in
theorem wrap_four (slo dlo : Nat) (A : Option Addr) (n c : Nat) (xs : List UInt8) (w : World) (hx : IsB w w.heap.size A n xs) (hn : n ≤ 4096) (p : Nat) (hp : innerP xs = p) (hk : innerK n xs = 0)
    (b6 : slo < 4294967296) (b8 : dlo < 4294967296) (hpp : p = 4 ∨ p = 41) :
    Calls Try.prog 20 #[addrV false 0 slo, addrV false 0 dlo, .slice A n c] w fun e w' => ∃ v, e = .returned (.tuple #[v, .int .i64 0]) ∧ OwnB w' w.heap.size v (Four.hdB 0 0 16384 64 p slo dlo [] n ++ xs) ∧ Below w.heap.size w w' := by
  obtain ⟨w1, hw1⟩ : ∃ w1, (w.alloc (.cells #[.bool false, .int .u64 0, .int .u64 slo] 26)).alloc (.cells #[.bool false, .int .u64 0, .int .u64 dlo] 26) = w1 := ⟨_, rfl⟩
  have hb1 : Below w.heap.size w w1 := hw1 ▸ ((Below.refl _ _).alloc (Nat.le_refl _) _).alloc (by simp) _
  have hgs : w1.heap[w.heap.size]? = some (.cells #[.bool false, .int .u64 0, .int .u64 slo] 26 (0, 0)) := hw1 ▸ blk_old _ (by simp) (blk_new _ _ _)
  have hgd : w1.heap[w.heap.size + 1]? = some (.cells #[.bool false, .int .u64 0, .int .u64 dlo] 26 (0, 0)) := hw1 ▸ (by simpa using blk_new (w.alloc (.cells #[.bool false, .int .u64 0, .int .u64 slo] 26)) 26 #[.bool false, .int .u64 0, .int .u64 dlo])
  have hz1 : w.heap.size + 1 < w1.heap.size := by rw [← hw1]; simp
  have hx1 := hx.on hb1
  have hcs := blk_cell hgs
  have hcd := blk_cell hgd
  have hnm : n ≤ maxLen := by unfold maxLen; omega
  have hp4 : p ≤ 255 := by omega
  have ho1 : Four.okA false 0 slo = true := by simp [Four.okA]; omega
  have ho2 : Four.okA false 0 dlo = true := by simp [Four.okA]; omega
  replace hx := hide hx
  replace hx1 := hide hx1
  replace hb1 := hide hb1
  replace hgs := hide hgs
  replace hgd := hide hgd
  replace hp := hide hp
  replace hk := hide hk
  replace hpp := hide hpp
  replace ho1 := hide ho1
  replace ho2 := hide ho2
  unfold addrV
  go_enter Try.func20, Try.ntmps20
  go_wp2_with fail
  refine (inner_any A n c xs _ hx1.out hnm p 0 hp.out hk.out).mono ?_
  rintro e w' ⟨rfl, rfl⟩
  clear hw1
  go_wp2_with fail
  refine (Four.addr_right false 0 slo true _ ho1.out).mono ?_
  rintro e w2 ⟨rfl, hb2⟩
  have hgs2 := blk_below hb2 (by omega) hgs.out
  have hgd2 := blk_below hb2 hz1 hgd.out
  have hB2 := hb1.out.trans (hb2.mono hb1.out.size)
  have hz2 : w.heap.size + 1 < w2.heap.size := by have := hb2.size; omega
  have hx2 := hx1.out.on hb2
  clear hb2 hcs hcd
  have hcs := blk_cell hgs2
  have hcd := blk_cell hgd2
  replace hB2 := hide hB2
  replace hgd2 := hide hgd2
  replace hgs2 := hide hgs2
  replace hx2 := hide hx2
  go_wp2_with fail
  refine (Four.addr_right false 0 dlo true _ ho2.out).mono ?_
  rintro e w3 ⟨rfl, hb3⟩
  have hgs3 := blk_below hb3 (by omega) hgs2.out
  have hgd3 := blk_below hb3 hz2 hgd2.out
  have hB3 := hB2.out.trans (hb3.mono hB2.out.size)
  have hx3 := hx2.out.on hb3
  clear hb3 hcs hcd
  have hcs := blk_cell hgs3
  have hcd := blk_cell hgd3
  replace hB3 := hide hB3
  replace hgd3 := hide hgd3
  replace hgs3 := hide hgs3
  replace hx3 := hide hx3
  go_wp2_with fail
  refine (Four.bytes_yes 0 0 true false 0 64 p slo dlo 16384 rfl none 0 0 [] A n c xs _ (by omega) (by omega) (by omega) (by omega) hp4 b6 b8 (by omega) (by omega) (IsB.nil _ _ _) hx3.out (by omega)).mono ?_
  rintro e w4 ⟨v, rfl, hown, hb4⟩
  have hB4 := hB3.out.trans (hb4.mono hB3.out.size)
  have hown4 := hown.weaken hB3.out.size
  clear hb4 hown hcs hcd
  replace hB4 := hide hB4
  replace hown4 := hide hown4
  go_wp2_with fail
  go_ret2
  exact ⟨_, rfl, hown4.out, hB4.out⟩
end Tun
end Go.Proofs.Ytdmgbngdpjcliaa
