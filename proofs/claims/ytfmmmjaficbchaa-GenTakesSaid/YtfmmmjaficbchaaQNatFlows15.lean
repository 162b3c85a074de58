/- pkt.Parse, by contract. Conditions: what parse4 and parse6 make of the bytes. -/
import Derived.Test.YtfmmmjaficbchaaQNatFlows14
import Derived.Test.YtfmmmjaficbchaaQNatFlows13
import Derived.Test.YtfmmmjaficbchaaQNatFlows11
import Derived.Test.YtfmmmjaficbchaaQNatFlows4
import Derived.Test.YtfmmmjaficbchaaQNatFlows1
import Derived.Test.YtfmmmjaficbchaaQNatFlows3
import Derived.Test.YtfmmmjaficbchaaQNatFlows12
namespace Go.Proofs.Ytfmmmjaficbchaa
open Go.RowKit Go.ChangeShapes Go.WideShapes Go.ChangeAt Go.Deep
namespace Pkt
set_option maxRecDepth 20000 in
set_option maxHeartbeats 4000000 in
theorem Parse_none (n : Nat) (xs : List UInt8) (h0 : n = 0) (y : Array Value) (A : Option Addr) (c : Nat) (w : World) (hx : IsB w w.heap.size A n xs) (_hnc : n ≤ c) (_hcm : c ≤ maxLen) :
    Calls Try.prog 12 #[.slice A n c] w fun e w' => End2 2 y w w' e := by
  obtain ⟨zs, hzs⟩ : ∃ zs, pkZ = zs := ⟨_, rfl⟩
  have hbz : Below w.heap.size w (w.alloc (.cells pkZ 34)) := (Below.refl _ _).alloc (Nat.le_refl _) _
  have hgz := blk_new w 34 pkZ
  obtain ⟨w1, hw1⟩ : ∃ w1, w.alloc (.cells pkZ 34) = w1 := ⟨_, rfl⟩
  have hz1 : w.heap.size < w1.heap.size := by rw [← hw1]; simp
  rw [hw1] at hbz hgz
  rw [hzs] at hgz
  unfold pkZ at hw1
  have hzz : zs.size = 23 := hzs ▸ pkZ_size
  have hx1 := hx.on hbz
  have t0 : ((n : Int) == 0) = true := by rw [beq_iff_eq]; omega
  have hqB := hbz
  have hqg := hgz
  replace hx := hide hx
  replace hx1 := hide hx1
  replace hbz := hide hbz
  replace hgz := hide hgz
  replace hzs := hide hzs
  replace hqB := hide hqB
  replace hqg := hide hqg
  go_enter Try.func12, Try.ntmps12
  go_upto_region 2 with fail
  clear hw1
  apply wp_region_lit
  refine wpList_plain rfl fun K hK => ?_
  go_simp
  refine hK _ _ ?_
  clear hK K
  refine wpl_st rfl 34 (.tmp 2) (.tmp 8) rfl w.heap.size 0 rfl pkZ rfl hqg.out (by rw [hzz, pkZ_size]; omega) (by rw [size_pk, pkZ_size]) pkZ_one fun w9 hg9 g9 => ?_
  rw [putA_whole _ _ (by rw [hzz, pkZ_size])] at hg9
  have hB9 := hqB.out.trans (below_grown g9 (by omega) (by omega))
  have hld : (loadVar 34 ⟨w.heap.size, 0, none⟩).run Try.prog w9 = .ok (.agg pkZ) w9 := by
    simpa using run_loadVar_mid w9 w.heap.size 0 34 pkZ.toList _ (blk_range hg9) Try.underlying34 rfl (by rw [size_pk, Array.length_toList, pkZ_size])
  have hfin : End2 2 y w w9 (.returned (.tuple #[.agg pkZ, .int .i64 ((2 : Nat) : Int)])) := end_bad (y := y) _ (by omega) hB9
  clear g9
  replace hg9 := hide hg9
  replace hB9 := hide hB9
  replace hfin := hide hfin
  replace hld := hide hld
  refine wpList_plain rfl fun K hK => ?_
  go_simp
  refine hK _ _ ?_
  clear hK K
  refine wpList_nil ?_
  go_wp2_with fail
  exact bodyPost_ret (v := .tuple #[.agg pkZ, .int .i64 ((2 : Nat) : Int)]) (by simp [results, Try.results12, asAddr, hld.out, Result.andThen]) rfl hfin.out
set_option maxRecDepth 20000 in
set_option maxHeartbeats 4000000 in
theorem Parse_long (n : Nat) (xs : List UInt8) (h0 : 9000 < n) (y : Array Value) (A : Option Addr) (c : Nat) (w : World) (hx : IsB w w.heap.size A n xs) (_hnc : n ≤ c) (_hcm : c ≤ maxLen) :
    Calls Try.prog 12 #[.slice A n c] w fun e w' => End2 25 y w w' e := by
  obtain ⟨zs, hzs⟩ : ∃ zs, pkZ = zs := ⟨_, rfl⟩
  have hbz : Below w.heap.size w (w.alloc (.cells pkZ 34)) := (Below.refl _ _).alloc (Nat.le_refl _) _
  have hgz := blk_new w 34 pkZ
  obtain ⟨w1, hw1⟩ : ∃ w1, w.alloc (.cells pkZ 34) = w1 := ⟨_, rfl⟩
  have hz1 : w.heap.size < w1.heap.size := by rw [← hw1]; simp
  rw [hw1] at hbz hgz
  rw [hzs] at hgz
  unfold pkZ at hw1
  have hzz : zs.size = 23 := hzs ▸ pkZ_size
  have hx1 := hx.on hbz
  have t0 : ((n : Int) == 0) = false := by rw [beq_eq_false_iff_ne]; omega
  have t9 : (9000 : Int) < (n : Int) := by omega
  have hqB := hbz
  have hqg := hgz
  replace hx := hide hx
  replace hx1 := hide hx1
  replace hbz := hide hbz
  replace hgz := hide hgz
  replace hzs := hide hzs
  replace hqB := hide hqB
  replace hqg := hide hqg
  go_enter Try.func12, Try.ntmps12
  go_upto_region 4 with fail
  clear hw1
  apply wp_region_lit
  refine wpList_plain rfl fun K hK => ?_
  go_simp
  refine hK _ _ ?_
  clear hK K
  refine wpl_st rfl 34 (.tmp 2) (.tmp 13) rfl w.heap.size 0 rfl pkZ rfl hqg.out (by rw [hzz, pkZ_size]; omega) (by rw [size_pk, pkZ_size]) pkZ_one fun w9 hg9 g9 => ?_
  rw [putA_whole _ _ (by rw [hzz, pkZ_size])] at hg9
  have hB9 := hqB.out.trans (below_grown g9 (by omega) (by omega))
  have hld : (loadVar 34 ⟨w.heap.size, 0, none⟩).run Try.prog w9 = .ok (.agg pkZ) w9 := by
    simpa using run_loadVar_mid w9 w.heap.size 0 34 pkZ.toList _ (blk_range hg9) Try.underlying34 rfl (by rw [size_pk, Array.length_toList, pkZ_size])
  have hfin : End2 25 y w w9 (.returned (.tuple #[.agg pkZ, .int .i64 ((25 : Nat) : Int)])) := end_bad (y := y) _ (by omega) hB9
  clear g9
  replace hg9 := hide hg9
  replace hB9 := hide hB9
  replace hfin := hide hfin
  replace hld := hide hld
  refine wpList_plain rfl fun K hK => ?_
  go_simp
  refine hK _ _ ?_
  clear hK K
  refine wpList_nil ?_
  go_wp2_with fail
  exact bodyPost_ret (v := .tuple #[.agg pkZ, .int .i64 ((25 : Nat) : Int)]) (by simp [results, Try.results12, asAddr, hld.out, Result.andThen]) rfl hfin.out
set_option maxRecDepth 20000 in
set_option maxHeartbeats 4000000 in
theorem Parse_else (n : Nat) (xs : List UInt8) (h0 : 0 < n) (hl : n ≤ 9000) (hv : (xs.getD 0 0).toNat / 16 ≠ 4 ∧ (xs.getD 0 0).toNat / 16 ≠ 6) (y : Array Value) (A : Option Addr) (c : Nat) (w : World) (hx : IsB w w.heap.size A n xs) (_hnc : n ≤ c) (_hcm : c ≤ maxLen) :
    Calls Try.prog 12 #[.slice A n c] w fun e w' => End2 10 y w w' e := by
  obtain ⟨zs, hzs⟩ : ∃ zs, pkZ = zs := ⟨_, rfl⟩
  have hbz : Below w.heap.size w (w.alloc (.cells pkZ 34)) := (Below.refl _ _).alloc (Nat.le_refl _) _
  have hgz := blk_new w 34 pkZ
  obtain ⟨w1, hw1⟩ : ∃ w1, w.alloc (.cells pkZ 34) = w1 := ⟨_, rfl⟩
  have hz1 : w.heap.size < w1.heap.size := by rw [← hw1]; simp
  rw [hw1] at hbz hgz
  rw [hzs] at hgz
  unfold pkZ at hw1
  have hzz : zs.size = 23 := hzs ▸ pkZ_size
  have hx1 := hx.on hbz
  obtain ⟨b, off, v0, rfl, hbl, hv0, hv0l, hc0⟩ := hx1.byte (i := 0) (by omega)
  rw [Nat.add_zero] at hc0
  rw [hv0] at hv
  have t0 : ((n : Int) == 0) = false := by rw [beq_eq_false_iff_ne]; omega
  have t9 : ¬ (9000 : Int) < (n : Int) := by omega
  have t1 : (0 : Int) < (n : Int) := by omega
  have t2 : 0 < n := by omega
  have t3 : (((v0 : Int) / 16) == 4) = false := by rw [beq_eq_false_iff_ne]; omega
  have t4 : (((v0 : Int) / 16) == 6) = false := by rw [beq_eq_false_iff_ne]; omega
  have hqB := hbz
  have hqg := hgz
  replace hx := hide hx
  replace hx1 := hide hx1
  replace hbz := hide hbz
  replace hgz := hide hgz
  replace hzs := hide hzs
  replace hqB := hide hqB
  replace hqg := hide hqg
  replace hv0 := hide hv0
  replace hv := hide hv
  go_enter Try.func12, Try.ntmps12
  go_upto_region 9 with fail
  clear hw1
  apply wp_region_lit
  refine wpList_plain rfl fun K hK => ?_
  go_simp
  refine hK _ _ ?_
  clear hK K
  refine wpl_st rfl 34 (.tmp 2) (.tmp 34) rfl w.heap.size 0 rfl pkZ rfl hqg.out (by rw [hzz, pkZ_size]; omega) (by rw [size_pk, pkZ_size]) pkZ_one fun w9 hg9 g9 => ?_
  rw [putA_whole _ _ (by rw [hzz, pkZ_size])] at hg9
  have hB9 := hqB.out.trans (below_grown g9 (by omega) (by omega))
  have hld : (loadVar 34 ⟨w.heap.size, 0, none⟩).run Try.prog w9 = .ok (.agg pkZ) w9 := by
    simpa using run_loadVar_mid w9 w.heap.size 0 34 pkZ.toList _ (blk_range hg9) Try.underlying34 rfl (by rw [size_pk, Array.length_toList, pkZ_size])
  have hfin : End2 10 y w w9 (.returned (.tuple #[.agg pkZ, .int .i64 ((10 : Nat) : Int)])) := end_bad (y := y) _ (by omega) hB9
  clear g9
  replace hg9 := hide hg9
  replace hB9 := hide hB9
  replace hfin := hide hfin
  replace hld := hide hld
  refine wpList_plain rfl fun K hK => ?_
  go_simp
  refine hK _ _ ?_
  clear hK K
  refine wpList_nil ?_
  go_wp2_with fail
  exact bodyPost_ret (v := .tuple #[.agg pkZ, .int .i64 ((10 : Nat) : Int)]) (by simp [results, Try.results12, asAddr, hld.out, Result.andThen]) rfl hfin.out
set_option maxRecDepth 20000 in
set_option maxHeartbeats 4000000 in
theorem Parse_four (n : Nat) (xs : List UInt8) (h0 : 0 < n) (hl : n ≤ 9000) (hv : (xs.getD 0 0).toNat / 16 = 4) (KK : Nat) (y : Array Value) (hy : KK = 0 → y.size = 23 ∧ y.all (·.oneCell') = true)
    (hP : ∀ (A : Option Addr) (c : Nat) (w : World), IsB w w.heap.size A n xs → n ≤ c → c ≤ maxLen → Calls Try.prog 37 #[.slice A n c] w fun e w' => End2 KK y w w' e)
    (A : Option Addr) (c : Nat) (w : World) (hx : IsB w w.heap.size A n xs) (hnc : n ≤ c) (hcm : c ≤ maxLen) :
    Calls Try.prog 12 #[.slice A n c] w fun e w' => End2 KK y w w' e := by
  obtain ⟨zs, hzs⟩ : ∃ zs, pkZ = zs := ⟨_, rfl⟩
  have hbz : Below w.heap.size w (w.alloc (.cells pkZ 34)) := (Below.refl _ _).alloc (Nat.le_refl _) _
  have hgz := blk_new w 34 pkZ
  obtain ⟨w1, hw1⟩ : ∃ w1, w.alloc (.cells pkZ 34) = w1 := ⟨_, rfl⟩
  have hz1 : w.heap.size < w1.heap.size := by rw [← hw1]; simp
  rw [hw1] at hbz hgz
  rw [hzs] at hgz
  unfold pkZ at hw1
  have hzz : zs.size = 23 := hzs ▸ pkZ_size
  have hx1 := hx.on hbz
  obtain ⟨b, off, v0, rfl, hbl, hv0, hv0l, hc0⟩ := hx1.byte (i := 0) (by omega)
  rw [Nat.add_zero] at hc0
  rw [hv0] at hv
  have t0 : ((n : Int) == 0) = false := by rw [beq_eq_false_iff_ne]; omega
  have t9 : ¬ (9000 : Int) < (n : Int) := by omega
  have t1 : (0 : Int) < (n : Int) := by omega
  have t2 : 0 < n := by omega
  have t3 : (((v0 : Int) / 16) == 4) = true := by rw [beq_iff_eq]; omega
  have hPc := hP _ c w1 hx1 hnc hcm
  replace hx := hide hx
  replace hx1 := hide hx1
  replace hbz := hide hbz
  replace hgz := hide hgz
  replace hzs := hide hzs
  replace hv0 := hide hv0
  replace hv := hide hv
  replace hPc := hide hPc
  replace hP := hide hP
  replace hy := hide hy
  go_enter Try.func12, Try.ntmps12
  go_upto_region 6 with fail
  clear hw1
  apply wp_region_lit
  refine wpList_plain rfl fun K hK => ?_
  go_simp
  refine hK _ _ ?_
  clear hK K
  refine wpList_plain rfl fun K hK => ?_
  go_simp
  refine hPc.out.mono ?_
  rintro e w2 ⟨rfl, hb2⟩
  obtain ⟨z, hz, hzs2, hzo⟩ : ∃ z, (if KK = 0 then y else pkZ) = z ∧ z.size = 23 ∧ z.all (·.oneCell') = true := by
    by_cases h : KK = 0
    · exact ⟨y, by rw [if_pos h], hy.out h⟩
    · exact ⟨pkZ, by rw [if_neg h], pkZ_size, pkZ_one⟩
  rw [hz]
  have hqB := hbz.out.trans (hb2.mono (by omega))
  have hqg := blk_below hb2 hz1 hgz.out
  have z2 := hb2.size
  clear hb2
  obtain ⟨kv, hkv⟩ : ∃ kv, ((KK : Nat) : Int) = kv := ⟨_, rfl⟩
  have hstore : ∀ (w9 : World), w9.heap[w.heap.size]? = some (.cells z 34 (0, 0)) → Below w.heap.size w w9 → (loadVar 34 ⟨w.heap.size, 0, none⟩).run Try.prog w9 = .ok (.agg z) w9 := fun w9 h _ => by
    simpa using run_loadVar_mid w9 w.heap.size 0 34 z.toList _ (blk_range h) Try.underlying34 rfl (by rw [size_pk, Array.length_toList, hzs2])
  clear hkv kv
  replace hz := hide hz
  replace hzo := hide hzo
  replace hqB := hide hqB
  replace hqg := hide hqg
  replace hstore := hide hstore
  go_simp
  refine hK _ _ ?_
  clear hK K
  refine wpList_plain rfl fun K hK => ?_
  go_simp
  refine hK _ _ ?_
  clear hK K
  refine wpList_plain rfl fun K hK => ?_
  go_simp
  refine hK _ _ ?_
  clear hK K
  refine wpl_st rfl 34 (.tmp 2) (.tmp 22) rfl w.heap.size 0 rfl z rfl hqg.out (by rw [hzz, hzs2]; omega) (by rw [size_pk, hzs2]) hzo.out fun w9 hg9 g9 => ?_
  rw [putA_whole _ _ (by rw [hzz, hzs2])] at hg9
  have hB9 := hqB.out.trans (below_grown g9 (by omega) (by omega))
  have hld : (loadVar 34 ⟨w.heap.size, 0, none⟩).run Try.prog w9 = .ok (.agg z) w9 := by
    simpa using run_loadVar_mid w9 w.heap.size 0 34 z.toList _ (blk_range hg9) Try.underlying34 rfl (by rw [size_pk, Array.length_toList, hzs2])
  have hfin : End2 KK y w w9 (.returned (.tuple #[.agg z, .int .i64 ((KK : Nat) : Int)])) := ⟨by rw [hz.out], hB9⟩
  clear g9
  replace hg9 := hide hg9
  replace hB9 := hide hB9
  replace hfin := hide hfin
  replace hld := hide hld
  refine wpList_plain rfl fun K hK => ?_
  go_simp
  refine hK _ _ ?_
  clear hK K
  refine wpList_nil ?_
  go_wp2_with fail
  exact bodyPost_ret (v := .tuple #[.agg z, .int .i64 ((KK : Nat) : Int)]) (by simp [results, Try.results12, asAddr, hld.out, Result.andThen]) rfl hfin.out
set_option maxRecDepth 20000 in
set_option maxHeartbeats 4000000 in
theorem Parse_six (n : Nat) (xs : List UInt8) (h0 : 0 < n) (hl : n ≤ 9000) (hv : (xs.getD 0 0).toNat / 16 = 6) (KK : Nat) (y : Array Value) (hy : KK = 0 → y.size = 23 ∧ y.all (·.oneCell') = true)
    (hP : ∀ (A : Option Addr) (c : Nat) (w : World), IsB w w.heap.size A n xs → n ≤ c → c ≤ maxLen → Calls Try.prog 38 #[.slice A n c] w fun e w' => End2 KK y w w' e)
    (A : Option Addr) (c : Nat) (w : World) (hx : IsB w w.heap.size A n xs) (hnc : n ≤ c) (hcm : c ≤ maxLen) :
    Calls Try.prog 12 #[.slice A n c] w fun e w' => End2 KK y w w' e := by
  obtain ⟨zs, hzs⟩ : ∃ zs, pkZ = zs := ⟨_, rfl⟩
  have hbz : Below w.heap.size w (w.alloc (.cells pkZ 34)) := (Below.refl _ _).alloc (Nat.le_refl _) _
  have hgz := blk_new w 34 pkZ
  obtain ⟨w1, hw1⟩ : ∃ w1, w.alloc (.cells pkZ 34) = w1 := ⟨_, rfl⟩
  have hz1 : w.heap.size < w1.heap.size := by rw [← hw1]; simp
  rw [hw1] at hbz hgz
  rw [hzs] at hgz
  unfold pkZ at hw1
  have hzz : zs.size = 23 := hzs ▸ pkZ_size
  have hx1 := hx.on hbz
  obtain ⟨b, off, v0, rfl, hbl, hv0, hv0l, hc0⟩ := hx1.byte (i := 0) (by omega)
  rw [Nat.add_zero] at hc0
  rw [hv0] at hv
  have t0 : ((n : Int) == 0) = false := by rw [beq_eq_false_iff_ne]; omega
  have t9 : ¬ (9000 : Int) < (n : Int) := by omega
  have t1 : (0 : Int) < (n : Int) := by omega
  have t2 : 0 < n := by omega
  have t3 : (((v0 : Int) / 16) == 4) = false := by rw [beq_eq_false_iff_ne]; omega
  have t4 : (((v0 : Int) / 16) == 6) = true := by rw [beq_iff_eq]; omega
  have hPc := hP _ c w1 hx1 hnc hcm
  replace hx := hide hx
  replace hx1 := hide hx1
  replace hbz := hide hbz
  replace hgz := hide hgz
  replace hzs := hide hzs
  replace hv0 := hide hv0
  replace hv := hide hv
  replace hPc := hide hPc
  replace hP := hide hP
  replace hy := hide hy
  go_enter Try.func12, Try.ntmps12
  go_upto_region 8 with fail
  clear hw1
  apply wp_region_lit
  refine wpList_plain rfl fun K hK => ?_
  go_simp
  refine hK _ _ ?_
  clear hK K
  refine wpList_plain rfl fun K hK => ?_
  go_simp
  refine hPc.out.mono ?_
  rintro e w2 ⟨rfl, hb2⟩
  obtain ⟨z, hz, hzs2, hzo⟩ : ∃ z, (if KK = 0 then y else pkZ) = z ∧ z.size = 23 ∧ z.all (·.oneCell') = true := by
    by_cases h : KK = 0
    · exact ⟨y, by rw [if_pos h], hy.out h⟩
    · exact ⟨pkZ, by rw [if_neg h], pkZ_size, pkZ_one⟩
  rw [hz]
  have hqB := hbz.out.trans (hb2.mono (by omega))
  have hqg := blk_below hb2 hz1 hgz.out
  have z2 := hb2.size
  clear hb2
  obtain ⟨kv, hkv⟩ : ∃ kv, ((KK : Nat) : Int) = kv := ⟨_, rfl⟩
  have hstore : ∀ (w9 : World), w9.heap[w.heap.size]? = some (.cells z 34 (0, 0)) → Below w.heap.size w w9 → (loadVar 34 ⟨w.heap.size, 0, none⟩).run Try.prog w9 = .ok (.agg z) w9 := fun w9 h _ => by
    simpa using run_loadVar_mid w9 w.heap.size 0 34 z.toList _ (blk_range h) Try.underlying34 rfl (by rw [size_pk, Array.length_toList, hzs2])
  clear hkv kv
  replace hz := hide hz
  replace hzo := hide hzo
  replace hqB := hide hqB
  replace hqg := hide hqg
  replace hstore := hide hstore
  go_simp
  refine hK _ _ ?_
  clear hK K
  refine wpList_plain rfl fun K hK => ?_
  go_simp
  refine hK _ _ ?_
  clear hK K
  refine wpList_plain rfl fun K hK => ?_
  go_simp
  refine hK _ _ ?_
  clear hK K
  refine wpl_st rfl 34 (.tmp 2) (.tmp 32) rfl w.heap.size 0 rfl z rfl hqg.out (by rw [hzz, hzs2]; omega) (by rw [size_pk, hzs2]) hzo.out fun w9 hg9 g9 => ?_
  rw [putA_whole _ _ (by rw [hzz, hzs2])] at hg9
  have hB9 := hqB.out.trans (below_grown g9 (by omega) (by omega))
  have hld : (loadVar 34 ⟨w.heap.size, 0, none⟩).run Try.prog w9 = .ok (.agg z) w9 := by
    simpa using run_loadVar_mid w9 w.heap.size 0 34 z.toList _ (blk_range hg9) Try.underlying34 rfl (by rw [size_pk, Array.length_toList, hzs2])
  have hfin : End2 KK y w w9 (.returned (.tuple #[.agg z, .int .i64 ((KK : Nat) : Int)])) := ⟨by rw [hz.out], hB9⟩
  clear g9
  replace hg9 := hide hg9
  replace hB9 := hide hB9
  replace hfin := hide hfin
  replace hld := hide hld
  refine wpList_plain rfl fun K hK => ?_
  go_simp
  refine hK _ _ ?_
  clear hK K
  refine wpList_nil ?_
  go_wp2_with fail
  exact bodyPost_ret (v := .tuple #[.agg z, .int .i64 ((KK : Nat) : Int)]) (by simp [results, Try.results12, asAddr, hld.out, Result.andThen]) rfl hfin.out
end Pkt
end Go.Proofs.Ytfmmmjaficbchaa
/- What upper makes of bytes: there is always one answer. -/
namespace Go.Proofs.Ytfmmmjaficbchaa
open Go.RowKit Go.ChangeShapes Go.WideShapes Go.ChangeAt Go.Deep
namespace Pkt
theorem upper_is (cs : Array Value) (hcs : cs.size = 23) (hone : cs.all (·.oneCell') = true) (v6 : Bool) (h0 : cs[0]? = some (.bool v6)) (pr : Int) (h1 : cs[1]? = some (.int .i64 pr)) (errs : Int) (_he6 : errs ≠ 6) (_he17 : errs ≠ 17) (xs ps : List UInt8) (hnm : xs.length ≤ 1099511627776) (hm : ps.length ≤ maxLen) :
    ∃ K y, (K = 0 → y.size = 23 ∧ y.all (·.oneCell') = true) ∧ UpIs cs errs xs ps K y := by
  by_cases h6 : pr = 6
  · refine ⟨_, tcpA cs (Tcp.parseS (Tcp.parseK ps xs) xs 0) (Tcp.parseS (Tcp.parseK ps xs) xs 2) (Tcp.parseF (Tcp.parseK ps xs) xs), fun _ => ⟨by unfold tcpA; simp [hcs], one_set (one_set (one_set hone _ rfl) _ rfl) _ rfl⟩, fun A P c d w hx hp hc hcm => upper_tcp cs hcs hone v6 h0 pr h1 errs A P c d xs ps w hx hp hc hcm hnm hm h6 _ rfl _ (fun _ => rfl)⟩
  by_cases h17 : pr = 17
  · refine ⟨_, udpA cs (Udp.parseS (Udp.parseK (!v6) ps xs) xs 0) (Udp.parseS (Udp.parseK (!v6) ps xs) xs 2), fun _ => ⟨by unfold udpA; simp [hcs], one_set (one_set hone _ rfl) _ rfl⟩, fun A P c d w hx hp hc hcm => upper_udp cs hcs hone v6 h0 pr h1 errs A P c d xs ps w hx hp hc hcm hnm hm h17 _ rfl _ (fun _ => rfl)⟩
  by_cases he : pr = errs
  · have ha : (aheadP v6 ps).length ≤ maxLen := by
      unfold aheadP
      split
      · exact hm
      · simp [maxLen]
    obtain ⟨K1, ty, cd, wd, ds, _, hds, hP⟩ := Icmp.parse_is xs (aheadP v6 ps) hnm ha
    obtain ⟨K2, qr, sv, sh, sl, dv, dh, dl, sp, dp, hQ⟩ := Icmp.quoted_is v6 ty ds (by omega)
    refine ⟨_, errA cs (tuA qr dv dh dl sv sh sl dp sp), fun _ => ⟨?_, ?_⟩, fun A P c d w hx hp hc hcm => upper_err cs hcs hone v6 h0 pr h1 errs A P c d xs ps w hx hp hc hcm hnm hm h6 h17 he K1 ty cd wd ds hP K2 qr sv sh sl dv dh dl sp dp hQ⟩
    · unfold errA
      rw [putA_size _ _ _ (by simp [hcs, tuA]), Array.size_setIfInBounds, hcs]
    · unfold errA
      exact all_put (one_set hone _ rfl) (by simpa using tuA_one qr dv dh dl sv sh sl dp sp)
  · exact ⟨14, #[], fun h => absurd h (by omega), fun A P c d w hx hp hc hcm => upper_none cs hcs hone v6 h0 pr h1 errs A P c d xs ps w hx hp hc hcm hnm hm h6 h17 he #[]⟩
end Pkt
end Go.Proofs.Ytfmmmjaficbchaa
/- What parse4, parse6 and pkt.Parse make of bytes: there is always one answer. -/
namespace Go.Proofs.Ytfmmmjaficbchaa
open Go.RowKit Go.ChangeShapes Go.WideShapes Go.ChangeAt Go.Deep
namespace Pkt
/-- What is behind a header is as long as it says. -/
theorem rest4 {n : Nat} {xs : List UInt8} {K tos id : Nat} {df mf : Bool} {frag ttl proto slo dlo n1 m1 : Nat} {rest : List UInt8} (hF : Tun.FourIs n xs K tos id df mf frag ttl proto slo dlo n1 m1 rest) {A : Option Addr} {c : Nat} {w : World} (hx : IsB w w.heap.size A n xs) (hc : n ≤ c) (hm : c ≤ maxLen) : rest.length = m1 := by
  obtain ⟨e, w', _, ⟨A1, c1, A2, c2, _, hi, _⟩, _⟩ := hF A c w hx hc hm []
  exact hi.1
theorem rest6 {n : Nat} {xs : List UInt8} {K : Nat} {cl la ho : Int} {b1 : Bool} {sh sl : Int} {b2 : Bool} {dh dl : Int} {acc : List (Int × List UInt8)} {nx m1 : Nat} {rest : List UInt8} (hF : Tun.SixIs n xs K cl la ho b1 sh sl b2 dh dl acc nx m1 rest) {A : Option Addr} {c : Nat} {w : World} (hx : IsB w w.heap.size A n xs) (hc : n ≤ c) (hm : c ≤ maxLen) : rest.length = m1 := by
  obtain ⟨e, w', _, ⟨X, m, xc, A2, c2, es, _, _, _, _, _, hi, _⟩, _⟩ := hF A c w hx hc hm []
  exact hi.1
theorem four_made (n : Nat) (xs : List UInt8) (hn : n ≤ 1099511627776) (A : Option Addr) (c : Nat) (w : World) (hx : IsB w w.heap.size A n xs) (hc : n ≤ c) (hcm : c ≤ maxLen) :
    ∃ K y, (K = 0 → y.size = 23 ∧ y.all (·.oneCell') = true) ∧ ∀ (A : Option Addr) (c : Nat) (w : World), IsB w w.heap.size A n xs → n ≤ c → c ≤ maxLen → Calls Try.prog 37 #[.slice A n c] w fun e w' => End2 K y w w' e := by
  rcases Tun.four_is n xs hx.1 hn with ⟨K, hK, _, hF⟩ | ⟨tos, id, df, mf, frag, ttl, proto, slo, dlo, n1, m1, rest, hl, hn1, _, hpr, _, hsl, hdl, hF⟩
  · exact ⟨K, #[], fun h => absurd h hK, fun A c w hx hc hcm => parse4_bad n xs K hK hF #[] A c w hx hc hcm⟩
  have hr := rest4 hF hx hc hcm
  by_cases hf : 0 < frag ∨ mf = true
  · exact ⟨21, #[], fun h => absurd h (by omega), fun A c w hx hc hcm => parse4_frag n xs tos id df mf frag ttl proto slo dlo n1 m1 rest hF hf #[] A c w hx hc hcm⟩
  obtain rfl : frag = 0 := by omega
  obtain rfl : mf = false := by cases mf with | false => rfl | true => exact absurd (.inr rfl) hf
  obtain ⟨K, y, hy, hU⟩ := upper_is (p4A proto slo dlo ttl (20 + n1 + m1)) rfl (p4A_one _ _ _ _ _) false rfl (proto : Int) rfl 1 (by decide) (by decide) rest (ps4 slo dlo proto m1) (by omega) (by unfold ps4 maxLen; simp [beB_length])
  exact ⟨K, y, hy, fun A c w hx hc hcm => parse4_ok n xs tos id df ttl proto slo dlo n1 m1 rest hF (by omega) hpr hsl hdl hr K y hU hy A c w hx hc hcm⟩
theorem six_made (n : Nat) (xs : List UInt8) (hn : n ≤ 1099511627776) (A : Option Addr) (c : Nat) (w : World) (hx : IsB w w.heap.size A n xs) (hc : n ≤ c) (hcm : c ≤ maxLen) :
    ∃ K y, (K = 0 → y.size = 23 ∧ y.all (·.oneCell') = true) ∧ ∀ (A : Option Addr) (c : Nat) (w : World), IsB w w.heap.size A n xs → n ≤ c → c ≤ maxLen → Calls Try.prog 38 #[.slice A n c] w fun e w' => End2 K y w w' e := by
  rcases Tun.six_is n xs hx.1 hn with ⟨K, hK, _, hF⟩ | ⟨cl, la, ho, sh, sl, dh, dl, acc, nx, m1, rest, _, hpr, hac, hal, hl, hsh, hsl, hdh, hdl, hF⟩
  · exact ⟨K, #[], fun h => absurd h hK, fun A c w hx hc hcm => parse6_bad n xs K hK hF #[] A c w hx hc hcm⟩
  have hr := rest6 hF hx hc hcm
  by_cases hf : 0 < Six.fragP acc ∨ Six.moreP acc = true
  · exact ⟨21, #[], fun h => absurd h (by omega), fun A c w hx hc hcm => parse6_frag n xs cl la ho sh sl dh dl acc nx m1 rest hF hac hf #[] A c w hx hc hcm⟩
  have hf0 : Six.fragP acc = 0 := by omega
  have hm0 : Six.moreP acc = false := by
    cases h : Six.moreP acc with
    | false => rfl
    | true => exact absurd (.inr h) hf
  obtain ⟨K, y, hy, hU⟩ := upper_is (p6A nx sh sl dh dl ho (40 + Six.sumP acc + m1)) rfl (p6A_one _ _ _ _ _ _ _) true rfl (nx : Int) rfl 58 (by decide) (by decide) rest (Six.pseudoB sh sl dh dl m1 nx) (by omega) (by unfold Six.pseudoB maxLen; simp [beB_length, allB])
  exact ⟨K, y, hy, fun A c w hx hc hcm => parse6_ok n xs cl la ho sh sl dh dl acc nx m1 rest hF hac hal hf0 hm0 (by omega) hpr hsh hsl hdh hdl hr _ rfl K y hU hy A c w hx hc hcm⟩
/-- What pkt.Parse makes of bytes, wherever they lie. -/
theorem parse_made (n : Nat) (xs : List UInt8) (A : Option Addr) (c : Nat) (w : World) (hx : IsB w w.heap.size A n xs) (hc : n ≤ c) (hcm : c ≤ maxLen) :
    ∃ K y, (K = 0 → y.size = 23 ∧ y.all (·.oneCell') = true) ∧ ∀ (A : Option Addr) (c : Nat) (w : World), IsB w w.heap.size A n xs → n ≤ c → c ≤ maxLen → Calls Try.prog 12 #[.slice A n c] w fun e w' => End2 K y w w' e := by
  by_cases h0 : n = 0
  · exact ⟨2, #[], fun h => absurd h (by omega), fun A c w hx hc hcm => Parse_none n xs h0 #[] A c w hx hc hcm⟩
  by_cases hl : 9000 < n
  · exact ⟨25, #[], fun h => absurd h (by omega), fun A c w hx hc hcm => Parse_long n xs hl #[] A c w hx hc hcm⟩
  by_cases h4 : (xs.getD 0 0).toNat / 16 = 4
  · obtain ⟨K, y, hy, hP⟩ := four_made n xs (by omega) A c w hx hc hcm
    exact ⟨K, y, hy, fun A c w hx hc hcm => Parse_four n xs (by omega) (by omega) h4 K y hy hP A c w hx hc hcm⟩
  by_cases h6 : (xs.getD 0 0).toNat / 16 = 6
  · obtain ⟨K, y, hy, hP⟩ := six_made n xs (by omega) A c w hx hc hcm
    exact ⟨K, y, hy, fun A c w hx hc hcm => Parse_six n xs (by omega) (by omega) h6 K y hy hP A c w hx hc hcm⟩
  exact ⟨10, #[], fun h => absurd h (by omega), fun A c w hx hc hcm => Parse_else n xs (by omega) (by omega) ⟨h4, h6⟩ #[] A c w hx hc hcm⟩
end Pkt
end Go.Proofs.Ytfmmmjaficbchaa
/- tun.Wrap and tun.Over by contract. Conditions: slices of bytes that read as lists, at most 4096 bytes. -/
namespace Go.Proofs.Ytfmmmjaficbchaa
open Go.RowKit Go.ChangeShapes Go.WideShapes Go.ChangeAt Go.Deep
namespace Tun
/-- Why a packet can't be put into another one; 0: it can. -/
def wrapK (n : Nat) (xs : List UInt8) (sv : Bool) (shi slo : Int) (dv : Bool) (dhi dlo : Int) : Nat :=
  if innerK n xs ≠ 0 then innerK n xs else if sv ≠ dv ∨ Four.okA sv shi slo = false ∨ Four.okA dv dhi dlo = false then 18 else 0
end Tun
end Go.Proofs.Ytfmmmjaficbchaa
/- The law's ttl of a packet, and wrapped packets parsed. Conditions: slices of bytes that read as lists, sizes below 2^39. -/
namespace Go.Proofs.Ytfmmmjaficbchaa
open Go.RowKit Go.ChangeShapes Go.WideShapes Go.ChangeAt Go.Deep
namespace Tun
theorem pcut_as (A : Option Addr) (n c n1 : Nat) (w : World) (hn : n ≤ maxLen) (hc : n ≤ c) (h1 : min n 500 = n1) :
    Calls Try.prog 10 #[.slice A n c] w fun e w' => e = .returned (.slice A n1 c) ∧ w = w' := by
  unfold maxLen at hn
  by_cases h : 500 < n
  · obtain rfl : n1 = 500 := by omega
    go_enter Try.func10, Try.ntmps10
    go_wp2
    go_ret
    exact ⟨rfl, rfl⟩
  · obtain rfl : n1 = n := by omega
    go_enter Try.func10, Try.ntmps10
    go_wp2
    go_ret
    exact ⟨rfl, rfl⟩
/-- A packet in one of version 4, parsed. -/
theorem four_wrapped (p slo dlo n : Nat) (xs ys : List UInt8) (hxl : xs.length = n) (hn : n ≤ 4096) (hp : p ≤ 255) (b6 : slo < 4294967296) (b8 : dlo < 4294967296) (hys : Four.hdB 0 0 16384 64 p slo dlo [] n ++ xs = ys) :
    FourIs (20 + n) ys 0 0 0 true false 0 64 p slo dlo 0 n xs ∧ ys.length = 20 + n ∧ (ys.getD 0 0).toNat / 16 = 4 := by
  obtain ⟨k1, k2, k3, k4, k5, k6, k7, k8, k9, k10, k11, k12, k13, k14, k15⟩ := Four.puts_get 0 0 16384 64 p slo dlo [] xs [] 0 n rfl hxl (by omega) (by omega) (by omega) (by omega) hp b6 b8 (by omega) (by omega) hn ys (by rw [List.append_nil]; exact hys)
  have hl : ys.length = 20 + n := by rw [← hys, List.length_append, Four.hdB_length, hxl]; rfl
  refine ⟨fun A c W hx hc _ => ?_, hl, k1⟩
  refine (Four.parse_ok A (20 + n) c ys W hx hc (by omega) (by omega) k1 20 k2 (by omega) (by omega) k4 (by omega) (by omega) k5).mono ?_
  rintro e w' ⟨A1, c1, A2, c2, rfl, _, _, _, i4, i5⟩
  obtain ⟨_, r1, r2, r3⟩ := i4.reads
  have hrest : (ys.take (beN ys 2 2)).drop 20 = xs := by rw [k3]; exact k14
  have hm : beN ys 2 2 - 20 = n := by omega
  rw [hrest, hm] at r3
  refine ⟨A1, c1, A2, c2, ?_, r3, by omega, r2, i5⟩
  unfold Four.rawV
  rw [k6, k7, k8, k9, k10, k11, k12, hm]
  rfl
/-- A packet in one of version 6, parsed. -/
theorem six_wrapped (p shi slo dhi dlo n : Nat) (xs ys : List UInt8) (hxl : xs.length = n) (hn : n ≤ 4096) (hp : p = 4 ∨ p = 41) (b5 : shi < 18446744073709551616) (b6 : slo < 18446744073709551616) (b7 : dhi < 18446744073709551616) (b8 : dlo < 18446744073709551616) (hys : Six.allB6 0 0 64 shi slo dhi dlo p [] xs = ys) :
    SixIs (40 + n) ys 0 0 0 64 true shi slo true dhi dlo [] p n xs ∧ ys.length = 40 + n ∧ (ys.getD 0 0).toNat / 16 = 6 := by
  have hr : Six.rightHB 0 0 64 true true p [] = true := by rcases hp with rfl | rfl <;> decide
  obtain ⟨g1, g2, _, _, g3, g4, g5, g6, g7, g8, g9⟩ := Six.puts_parse 0 0 64 shi slo dhi dlo p [] xs [] ys hr b5 b6 b7 b8 (by omega) (by rw [List.append_nil]; exact hys)
  have hl : ys.length = 40 + n := by rw [← hys, Six.allB6_length, hxl]; rfl
  rw [hl] at g1
  refine ⟨fun A c W hx hc hcm => ?_, hl, by rw [← hys, Six.allB6_head]; rfl⟩
  refine (Six.parse_any A (40 + n) c ys W hx hc hcm (by omega) 0 0 64 shi slo dhi dlo g3 g4 g5 g6 g7 g8 g9).mono ?_
  rw [g1, g2]
  rintro e w' ⟨_, h2, h3⟩
  obtain ⟨acc', next', rest', hR', X, xc, es, A2, c2, he, hes, hX, hr⟩ := h2 rfl
  cases hR'
  obtain ⟨hx1, hx2, hx3⟩ := hX.isX
  obtain ⟨_, r1, r2, r3⟩ := hr.reads
  subst hxl
  exact ⟨X, es.length, xc, A2, c2, es, he, hes, hx1, hx2, hx3, r3, r1, r2, h3⟩
end Tun
end Go.Proofs.Ytfmmmjaficbchaa
/- tun.Less by contract. Conditions: a slice of bytes that reads as a list, at most 65535 bytes. -/
namespace Go.Proofs.Ytfmmmjaficbchaa
open Go.RowKit Go.ChangeShapes Go.WideShapes Go.ChangeAt Go.Deep
namespace Tun
open Pkt (InEnd)
end Tun
end Go.Proofs.Ytfmmmjaficbchaa
/- The function literals of pkt.Datagram and pkt.Segment, by contract: what is behind the header. Conditions: slices of bytes that read as lists, at most 4000 bytes. -/
namespace Go.Proofs.Ytfmmmjaficbchaa
open Go.RowKit Go.ChangeShapes Go.WideShapes Go.ChangeAt Go.Deep
namespace Pkt
def dgK (sp dp : Int) : Nat := if Udp.rightP sp dp = true then 0 else 1
def sgK (sp dp fl : Int) : Nat := if Tcp.rightP sp dp fl = true then 0 else 1
theorem udp_in (sp dp : Int) (A : Option Addr) (n c : Nat) (P : Option Addr) (m d : Nat) (xs ps : List UInt8) (w : World) (hx : IsB w w.heap.size A n xs) (hp : IsB w w.heap.size P m ps) (hn : n ≤ 4000) (hm : m ≤ maxLen) :
    Calls Try.prog 42 #[.agg #[.int .i64 sp, .int .i64 dp, .bool false], .slice A n c, .slice P m d] w fun e w' => InEnd (dgK sp dp) (Udp.dgB ps sp.toNat dp.toNat xs) w w' e := by
  by_cases h : Udp.rightP sp dp = true
  · have hk : dgK sp dp = 0 := by unfold dgK; rw [if_pos h]
    unfold Udp.rightP at h
    rw [decide_eq_true_eq] at h
    have := Udp.bytes_yes sp.toNat dp.toNat A n c P m d xs ps w (by omega) (by omega) hx hp (by omega) hm
    rw [show ((sp.toNat : Nat) : Int) = sp by omega, show ((dp.toNat : Nat) : Int) = dp by omega] at this
    refine this.mono ?_
    rintro e w' ⟨v, rfl, h1, h2⟩
    rw [hk]
    exact .yes h1 h2
  · have hk : dgK sp dp = 1 := by unfold dgK; rw [if_neg h]
    refine (Udp.bytes_no sp dp A n c P m d w (by simpa using h)).mono ?_
    rintro e w' ⟨rfl, h2⟩
    rw [hk]
    exact .no _ (by omega) h2
theorem tcp_in (sp dp fl : Int) (A : Option Addr) (n c : Nat) (P : Option Addr) (m d : Nat) (xs ps : List UInt8) (w : World) (hx : IsB w w.heap.size A n xs) (hp : IsB w w.heap.size P m ps) (hn : n ≤ 4000) (hm : m ≤ maxLen) :
    Calls Try.prog 44 #[Tcp.hdV sp dp 0 0 fl 1024 0 none 0 0, .slice A n c, .slice P m d] w fun e w' => InEnd (sgK sp dp fl) (Tcp.sgB ps sp.toNat dp.toNat fl.toNat xs) w w' e := by
  by_cases h : Tcp.rightP sp dp fl = true
  · have hk : sgK sp dp fl = 0 := by unfold sgK; rw [if_pos h]
    unfold Tcp.rightP at h
    rw [decide_eq_true_eq] at h
    have := Tcp.bytes_yes sp.toNat dp.toNat fl.toNat A n c P m d xs ps w (by omega) (by omega) (by omega) hx hp (by omega) hm
    rw [show ((sp.toNat : Nat) : Int) = sp by omega, show ((dp.toNat : Nat) : Int) = dp by omega, show ((fl.toNat : Nat) : Int) = fl by omega] at this
    refine this.mono ?_
    rintro e w' ⟨v, rfl, h1, h2⟩
    rw [hk]
    exact .yes h1 h2
  · have hk : sgK sp dp fl = 1 := by unfold sgK; rw [if_neg h]
    refine (Tcp.bytes_no sp dp fl A n c P m d w (by simpa using h)).mono ?_
    rintro e w' ⟨rfl, h2⟩
    rw [hk]
    exact .no _ (by omega) h2
set_option maxRecDepth 8000 in
theorem lit_dg (pr : Int) (sv : Bool) (shi slo : Int) (dv : Bool) (dhi dlo sp dp : Int) (g1 g2 : Nat) (A : Option Addr) (n c : Nat) (P : Option Addr) (m d : Nat) (xs ps : List UInt8) (w : World) (hg1 : w.heap[g1]? = some (.cells (tuA pr sv shi slo dv dhi dlo sp dp) 32 (0, 0))) (hg2 : w.heap[g2]? = some (.cells #[.slice A n c] 22 (0, 0)))
    (hx : IsB w w.heap.size A n xs) (hp : IsB w w.heap.size P m ps) (hn : n ≤ 4000) (hm : m ≤ maxLen) :
    Calls Try.prog 41 #[.slice P m d, .pointer (some ⟨g1, 0, none⟩), .pointer (some ⟨g2, 0, none⟩)] w fun e w' => InEnd (dgK sp dp) (Udp.dgB ps sp.toNat dp.toNat xs) w w' e := by
  unfold tuA at hg1
  have hc1 := blk_cell hg1
  have hc2 := blk_cell hg2
  replace hg1 := hide hg1
  replace hg2 := hide hg2
  replace hx := hide hx
  replace hp := hide hp
  go_enter Try.func41, Try.ntmps41
  go_wp2_with fail
  refine (udp_in sp dp A n c P m d xs ps _ hx.out hp.out hn hm).mono ?_
  rintro e w4 ⟨v4, rfl, h6, h7, h8⟩
  clear hc1 hc2
  replace h6 := hide h6
  replace h7 := hide h7
  replace h8 := hide h8
  go_wp2_with fail
  go_ret2
  exact ⟨v4, rfl, h6.out, h7.out, h8.out⟩
set_option maxRecDepth 8000 in
theorem lit_sg (pr : Int) (sv : Bool) (shi slo : Int) (dv : Bool) (dhi dlo sp dp fl : Int) (g1 g2 g3 : Nat) (A : Option Addr) (n c : Nat) (P : Option Addr) (m d : Nat) (xs ps : List UInt8) (w : World) (hg1 : w.heap[g1]? = some (.cells (tuA pr sv shi slo dv dhi dlo sp dp) 32 (0, 0))) (hg2 : w.heap[g2]? = some (.cells #[.int .i64 fl] 3 (0, 0))) (hg3 : w.heap[g3]? = some (.cells #[.slice A n c] 22 (0, 0)))
    (hx : IsB w w.heap.size A n xs) (hp : IsB w w.heap.size P m ps) (hn : n ≤ 4000) (hm : m ≤ maxLen) :
    Calls Try.prog 43 #[.slice P m d, .pointer (some ⟨g1, 0, none⟩), .pointer (some ⟨g2, 0, none⟩), .pointer (some ⟨g3, 0, none⟩)] w fun e w' => InEnd (sgK sp dp fl) (Tcp.sgB ps sp.toNat dp.toNat fl.toNat xs) w w' e := by
  unfold tuA at hg1
  have hc1 := blk_cell hg1
  have hc2 := blk_cell hg2
  have hc3 := blk_cell hg3
  have hu := tcp_in sp dp fl A n c P m d xs ps w hx hp hn hm
  unfold Tcp.hdV at hu
  replace hg1 := hide hg1
  replace hg2 := hide hg2
  replace hg3 := hide hg3
  replace hx := hide hx
  replace hp := hide hp
  replace hu := hide hu
  go_enter Try.func43, Try.ntmps43
  go_wp2_with fail
  refine hu.out.mono ?_
  rintro e w4 ⟨v4, rfl, h6, h7, h8⟩
  clear hc1 hc2 hc3 hu
  replace h6 := hide h6
  replace h7 := hide h7
  replace h8 := hide h8
  go_wp2_with fail
  go_ret2
  exact ⟨v4, rfl, h6.out, h7.out, h8.out⟩
end Pkt
end Go.Proofs.Ytfmmmjaficbchaa
/- pkt.Datagram and pkt.Segment, by contract: which bytes they make, or why none. Conditions: slices of bytes that read as lists, at most 4000 bytes, numbers of 64 bits. -/
namespace Go.Proofs.Ytfmmmjaficbchaa
open Go.RowKit Go.ChangeShapes Go.WideShapes Go.ChangeAt Go.Deep
namespace Pkt
/-- What goes ahead of a check. -/
def aheadB (v6 : Bool) (shi slo dhi dlo pr sz : Nat) : List UInt8 := if v6 = true then Six.pseudoB shi slo dhi dlo sz pr else ((beB slo 4 ++ beB dlo 4) ++ [0, UInt8.ofNat pr]) ++ beB sz 2
/-- What a header makes of bytes. -/
def wrapB (v6 : Bool) (shi slo dhi dlo pr : Nat) (ttl : Int) (U : List UInt8) : List UInt8 := if v6 = true then Six.allB6 0 0 ttl.toNat shi slo dhi dlo pr [] U else Four.hdB 0 0 0 ttl.toNat pr slo dlo [] U.length ++ U
def wrapK (v6 : Bool) (ttl shi slo dhi dlo : Int) : Nat := if v6 = true then ttlK ttl else fourK ttl shi slo dhi dlo
def dgmK (pr : Int) (sv : Bool) (shi slo : Int) (dv : Bool) (dhi dlo sp dp ttl : Int) : Nat := if pr ≠ 17 ∨ sv ≠ dv then 1 else if dgK sp dp = 0 then wrapK sv ttl shi slo dhi dlo else dgK sp dp
def sgmK (pr : Int) (sv : Bool) (shi slo : Int) (dv : Bool) (dhi dlo sp dp fl ttl : Int) : Nat := if pr ≠ 6 ∨ sv ≠ dv then 1 else if sgK sp dp fl = 0 then wrapK sv ttl shi slo dhi dlo else sgK sp dp fl
def dgU (sv : Bool) (shi slo dhi dlo : Nat) (sp dp : Int) (xs : List UInt8) : List UInt8 := Udp.dgB (aheadB sv shi slo dhi dlo 17 (8 + xs.length)) sp.toNat dp.toNat xs
def sgU (sv : Bool) (shi slo dhi dlo : Nat) (sp dp fl : Int) (xs : List UInt8) : List UInt8 := Tcp.sgB (aheadB sv shi slo dhi dlo 6 (20 + xs.length)) sp.toNat dp.toNat fl.toNat xs
theorem dgU_length (sv : Bool) (shi slo dhi dlo : Nat) (sp dp : Int) (xs : List UInt8) : (dgU sv shi slo dhi dlo sp dp xs).length = 8 + xs.length := by
  unfold dgU Udp.dgB
  rw [setB_length _ _ _ (by rw [Udp.dg0_length, beB_length]; omega), Udp.dg0_length]
theorem sgU_length (sv : Bool) (shi slo dhi dlo : Nat) (sp dp fl : Int) (xs : List UInt8) : (sgU sv shi slo dhi dlo sp dp fl xs).length = 20 + xs.length := by
  unfold sgU Tcp.sgB
  rw [setB_length _ _ _ (by rw [Tcp.sg0_length, beB_length]; omega), Tcp.sg0_length]
set_option maxRecDepth 20000 in
set_option maxHeartbeats 8000000 in
theorem datagram_no (pr : Int) (sv : Bool) (shi slo : Int) (dv : Bool) (dhi dlo sp dp ttl : Int) (A : Option Addr) (n c : Nat) (w : World) (h : pr ≠ 17 ∨ sv ≠ dv) :
    Calls Try.prog 16 #[.agg (tuA pr sv shi slo dv dhi dlo sp dp), .int .i64 ttl, .slice A n c] w fun e w' => InEnd 1 [] w w' e := by
  have hb : Below w.heap.size w ((w.alloc (.cells (tuA pr sv shi slo dv dhi dlo sp dp) 32)).alloc (.cells #[.slice A n c] 22)) := ((Below.refl _ _).alloc (Nat.le_refl _) _).alloc (by simp) _
  unfold tuA at hb ⊢
  by_cases hp : pr = 17
  · subst hp
    have hs : sv ≠ dv := by simpa using h
    replace hb := hide hb
    clear h
    cases sv with
    | false =>
      cases dv with
      | false => exact absurd rfl hs
      | true =>
        clear hs
        go_enter Try.func16, Try.ntmps16
        go_wp2_with fail
        go_ret2
        exact .no (K := 1) _ (by omega) hb.out
    | true =>
      cases dv with
      | true => exact absurd rfl hs
      | false =>
        clear hs
        go_enter Try.func16, Try.ntmps16
        go_wp2_with fail
        go_ret2
        exact .no (K := 1) _ (by omega) hb.out
  · have hp2 : (pr != 17) = true := by simpa using hp
    replace hb := hide hb
    clear h hp
    go_enter Try.func16, Try.ntmps16
    go_wp2_with fail
    go_ret2
    exact .no (K := 1) _ (by omega) hb.out
set_option maxRecDepth 20000 in
set_option maxHeartbeats 8000000 in
theorem datagram_six (shi slo dhi dlo : Nat) (sp dp ttl : Int) (A : Option Addr) (n c : Nat) (xs : List UInt8) (w : World) (hx : IsB w w.heap.size A n xs) (hn : n ≤ 4000)
    (h4 : shi < 18446744073709551616) (h5 : slo < 18446744073709551616) (h6 : dhi < 18446744073709551616) (h7 : dlo < 18446744073709551616) :
    Calls Try.prog 16 #[.agg (tuA 17 true shi slo true dhi dlo sp dp), .int .i64 ttl, .slice A n c] w fun e w' => InEnd (dgmK 17 true shi slo true dhi dlo sp dp ttl) (wrapB true shi slo dhi dlo 17 ttl (dgU true shi slo dhi dlo sp dp xs)) w w' e := by
  obtain ⟨w1, hw1⟩ : ∃ w1, (w.alloc (.cells (tuA 17 true shi slo true dhi dlo sp dp) 32)).alloc (.cells #[.slice A n c] 22) = w1 := ⟨_, rfl⟩
  have hb1 : Below w.heap.size w w1 := hw1 ▸ ((Below.refl _ _).alloc (Nat.le_refl _) _).alloc (by simp) _
  have hg1 : w1.heap[w.heap.size]? = some (.cells (tuA 17 true shi slo true dhi dlo sp dp) 32 (0, 0)) := hw1 ▸ blk_old _ (by simp) (blk_new _ _ _)
  have hg2 : w1.heap[w.heap.size + 1]? = some (.cells #[.slice A n c] 22 (0, 0)) := hw1 ▸ (by simpa using blk_new (w.alloc (.cells (tuA 17 true shi slo true dhi dlo sp dp) 32)) 22 #[.slice A n c])
  have hz1 : w.heap.size + 1 < w1.heap.size := by rw [← hw1]; simp
  have hx1 := hx.on hb1
  have hxl := hx.1
  obtain ⟨U, hU⟩ : ∃ U, dgU true shi slo dhi dlo sp dp xs = U := ⟨_, rfl⟩
  have hUl : U.length = 8 + n := by rw [← hU, dgU_length, hxl]
  replace hg1 := hide hg1
  replace hg2 := hide hg2
  replace hx1 := hide hx1
  have hwr := wrapD_six 17 (by omega) (by decide) shi slo dhi dlo sp dp ttl ⟨w.heap.size, 0, none⟩ ⟨w.heap.size + 1, 0, none⟩ (8 + n) (by omega) (dgK sp dp) U (by omega) w1 h4 h5 h6 h7 (by
    intro P m d w' hb hp hm
    refine (lit_dg 17 true shi slo true dhi dlo sp dp _ _ A n c P m d xs _ w' (blk_below hb (by omega) hg1.out) (blk_below hb (by omega) hg2.out) (hx1.out.on hb) hp hn hm).mono ?_
    intro e w'' he
    rw [← hU]
    unfold dgU aheadB
    rw [if_pos rfl, hxl]
    exact he)
  have hK : dgmK 17 true shi slo true dhi dlo sp dp ttl = (if dgK sp dp = 0 then ttlK ttl else dgK sp dp) := by
    unfold dgmK wrapK
    simp
  have hR : wrapB true shi slo dhi dlo 17 ttl U = Six.allB6 0 0 ttl.toNat shi slo dhi dlo 17 [] U := by
    unfold wrapB
    rw [if_pos rfl]
  rw [hU, hK, hR]
  obtain ⟨KK, hKK⟩ : ∃ KK, (if dgK sp dp = 0 then ttlK ttl else dgK sp dp) = KK := ⟨_, rfl⟩
  rw [hKK] at hwr ⊢
  clear hK hR
  have hcs := blk_cell hg1.out
  have hcd := blk_cell hg2.out

  unfold tuA at hw1 hcs ⊢
  replace hx := hide hx
  replace hxl := hide hxl
  replace hU := hide hU
  replace hUl := hide hUl
  replace hwr := hide hwr
  replace hKK := hide hKK
  replace hb1 := hide hb1
  clear hg1 hg2
  go_enter Try.func16, Try.ntmps16
  go_wp2_with fail
  refine hwr.out.mono ?_
  rintro e w4 h4
  have h5 := h4.from hb1.out
  obtain ⟨v4, rfl, h6, h7, h8⟩ := h5
  clear h4 hcs hcd hw1
  replace h6 := hide h6
  replace h7 := hide h7
  replace h8 := hide h8
  go_wp2_with fail
  go_ret2
  exact ⟨v4, rfl, h6.out, h7.out, h8.out⟩
set_option maxRecDepth 20000 in
set_option maxHeartbeats 8000000 in
theorem datagram_four (shi slo dhi dlo : Nat) (sp dp ttl : Int) (A : Option Addr) (n c : Nat) (xs : List UInt8) (w : World) (hx : IsB w w.heap.size A n xs) (hn : n ≤ 4000)
    (h4 : shi < 18446744073709551616) (h5 : slo < 18446744073709551616) (h6 : dhi < 18446744073709551616) (h7 : dlo < 18446744073709551616) :
    Calls Try.prog 16 #[.agg (tuA 17 false shi slo false dhi dlo sp dp), .int .i64 ttl, .slice A n c] w fun e w' => InEnd (dgmK 17 false shi slo false dhi dlo sp dp ttl) (wrapB false shi slo dhi dlo 17 ttl (dgU false shi slo dhi dlo sp dp xs)) w w' e := by
  obtain ⟨w1, hw1⟩ : ∃ w1, (w.alloc (.cells (tuA 17 false shi slo false dhi dlo sp dp) 32)).alloc (.cells #[.slice A n c] 22) = w1 := ⟨_, rfl⟩
  have hb1 : Below w.heap.size w w1 := hw1 ▸ ((Below.refl _ _).alloc (Nat.le_refl _) _).alloc (by simp) _
  have hg1 : w1.heap[w.heap.size]? = some (.cells (tuA 17 false shi slo false dhi dlo sp dp) 32 (0, 0)) := hw1 ▸ blk_old _ (by simp) (blk_new _ _ _)
  have hg2 : w1.heap[w.heap.size + 1]? = some (.cells #[.slice A n c] 22 (0, 0)) := hw1 ▸ (by simpa using blk_new (w.alloc (.cells (tuA 17 false shi slo false dhi dlo sp dp) 32)) 22 #[.slice A n c])
  have hz1 : w.heap.size + 1 < w1.heap.size := by rw [← hw1]; simp
  have hx1 := hx.on hb1
  have hxl := hx.1
  obtain ⟨U, hU⟩ : ∃ U, dgU false shi slo dhi dlo sp dp xs = U := ⟨_, rfl⟩
  have hUl : U.length = 8 + n := by rw [← hU, dgU_length, hxl]
  replace hg1 := hide hg1
  replace hg2 := hide hg2
  replace hx1 := hide hx1
  have hwr := wrapD_four 17 (by omega) (by decide) shi slo dhi dlo sp dp ttl ⟨w.heap.size, 0, none⟩ ⟨w.heap.size + 1, 0, none⟩ (8 + n) (by omega) (dgK sp dp) U (by omega) w1 h4 h5 h6 h7 (by
    intro P m d w' hb hp hm
    refine (lit_dg 17 false shi slo false dhi dlo sp dp _ _ A n c P m d xs _ w' (blk_below hb (by omega) hg1.out) (blk_below hb (by omega) hg2.out) (hx1.out.on hb) hp hn hm).mono ?_
    intro e w'' he
    rw [← hU]
    unfold dgU aheadB
    rw [if_neg (by simp), hxl]
    exact he)
  have hK : dgmK 17 false shi slo false dhi dlo sp dp ttl = (if dgK sp dp = 0 then fourK ttl shi slo dhi dlo else dgK sp dp) := by
    unfold dgmK wrapK
    simp
  have hR : wrapB false shi slo dhi dlo 17 ttl U = Four.hdB 0 0 0 ttl.toNat 17 slo dlo [] U.length ++ U := by
    unfold wrapB
    rw [if_neg (by simp)]
  rw [hU, hK, hR]
  obtain ⟨KK, hKK⟩ : ∃ KK, (if dgK sp dp = 0 then fourK ttl shi slo dhi dlo else dgK sp dp) = KK := ⟨_, rfl⟩
  rw [hKK] at hwr ⊢
  clear hK hR
  have hcs := blk_cell hg1.out
  have hcd := blk_cell hg2.out

  unfold tuA at hw1 hcs ⊢
  replace hx := hide hx
  replace hxl := hide hxl
  replace hU := hide hU
  replace hUl := hide hUl
  replace hwr := hide hwr
  replace hKK := hide hKK
  replace hb1 := hide hb1
  clear hg1 hg2
  go_enter Try.func16, Try.ntmps16
  go_wp2_with fail
  refine hwr.out.mono ?_
  rintro e w4 h4
  have h5 := h4.from hb1.out
  obtain ⟨v4, rfl, h6, h7, h8⟩ := h5
  clear h4 hcs hcd hw1
  replace h6 := hide h6
  replace h7 := hide h7
  replace h8 := hide h8
  go_wp2_with fail
  go_ret2
  exact ⟨v4, rfl, h6.out, h7.out, h8.out⟩
set_option maxRecDepth 20000 in
set_option maxHeartbeats 8000000 in
theorem segment_no (pr : Int) (sv : Bool) (shi slo : Int) (dv : Bool) (dhi dlo sp dp ttl : Int) (fl : Int) (A : Option Addr) (n c : Nat) (w : World) (h : pr ≠ 6 ∨ sv ≠ dv) :
    Calls Try.prog 18 #[.agg (tuA pr sv shi slo dv dhi dlo sp dp), .int .i64 ttl, .int .i64 fl, .slice A n c] w fun e w' => InEnd 1 [] w w' e := by
  have hb : Below w.heap.size w (((w.alloc (.cells (tuA pr sv shi slo dv dhi dlo sp dp) 32)).alloc (.cells #[.int .i64 fl] 3)).alloc (.cells #[.slice A n c] 22)) := (((Below.refl _ _).alloc (Nat.le_refl _) _).alloc (by simp) _).alloc (by simp; omega) _
  unfold tuA at hb ⊢
  by_cases hp : pr = 6
  · subst hp
    have hs : sv ≠ dv := by simpa using h
    replace hb := hide hb
    clear h
    cases sv with
    | false =>
      cases dv with
      | false => exact absurd rfl hs
      | true =>
        clear hs
        go_enter Try.func18, Try.ntmps18
        go_wp2_with fail
        go_ret2
        exact .no (K := 1) _ (by omega) hb.out
    | true =>
      cases dv with
      | true => exact absurd rfl hs
      | false =>
        clear hs
        go_enter Try.func18, Try.ntmps18
        go_wp2_with fail
        go_ret2
        exact .no (K := 1) _ (by omega) hb.out
  · have hp2 : (pr != 6) = true := by simpa using hp
    replace hb := hide hb
    clear h hp
    go_enter Try.func18, Try.ntmps18
    go_wp2_with fail
    go_ret2
    exact .no (K := 1) _ (by omega) hb.out
set_option maxRecDepth 20000 in
set_option maxHeartbeats 8000000 in
theorem segment_six (shi slo dhi dlo : Nat) (sp dp ttl : Int) (fl : Int) (A : Option Addr) (n c : Nat) (xs : List UInt8) (w : World) (hx : IsB w w.heap.size A n xs) (hn : n ≤ 4000)
    (h4 : shi < 18446744073709551616) (h5 : slo < 18446744073709551616) (h6 : dhi < 18446744073709551616) (h7 : dlo < 18446744073709551616) :
    Calls Try.prog 18 #[.agg (tuA 6 true shi slo true dhi dlo sp dp), .int .i64 ttl, .int .i64 fl, .slice A n c] w fun e w' => InEnd (sgmK 6 true shi slo true dhi dlo sp dp fl ttl) (wrapB true shi slo dhi dlo 6 ttl (sgU true shi slo dhi dlo sp dp fl xs)) w w' e := by
  obtain ⟨w1, hw1⟩ : ∃ w1, ((w.alloc (.cells (tuA 6 true shi slo true dhi dlo sp dp) 32)).alloc (.cells #[.int .i64 fl] 3)).alloc (.cells #[.slice A n c] 22) = w1 := ⟨_, rfl⟩
  have hb1 : Below w.heap.size w w1 := hw1 ▸ (((Below.refl _ _).alloc (Nat.le_refl _) _).alloc (by simp) _).alloc (by simp; omega) _
  have hg1 : w1.heap[w.heap.size]? = some (.cells (tuA 6 true shi slo true dhi dlo sp dp) 32 (0, 0)) := hw1 ▸ blk_old _ (by simp; omega) (blk_old _ (by simp) (blk_new _ _ _))
  have hg2 : w1.heap[w.heap.size + 1]? = some (.cells #[.int .i64 fl] 3 (0, 0)) := hw1 ▸ blk_old _ (by simp) (by simpa using blk_new (w.alloc (.cells (tuA 6 true shi slo true dhi dlo sp dp) 32)) 3 #[.int .i64 fl])
  have hg3 : w1.heap[w.heap.size + 2]? = some (.cells #[.slice A n c] 22 (0, 0)) := hw1 ▸ (by simpa using blk_new ((w.alloc (.cells (tuA 6 true shi slo true dhi dlo sp dp) 32)).alloc (.cells #[.int .i64 fl] 3)) 22 #[.slice A n c])
  have hz1 : w.heap.size + 2 < w1.heap.size := by rw [← hw1]; simp
  have hx1 := hx.on hb1
  have hxl := hx.1
  obtain ⟨U, hU⟩ : ∃ U, sgU true shi slo dhi dlo sp dp fl xs = U := ⟨_, rfl⟩
  have hUl : U.length = 20 + n := by rw [← hU, sgU_length, hxl]
  replace hg1 := hide hg1
  replace hg2 := hide hg2
  replace hg3 := hide hg3
  replace hx1 := hide hx1
  have hwr := wrapS_six 6 (by omega) (by decide) shi slo dhi dlo sp dp ttl ⟨w.heap.size, 0, none⟩ ⟨w.heap.size + 1, 0, none⟩ ⟨w.heap.size + 2, 0, none⟩ (20 + n) (by omega) (sgK sp dp fl) U (by omega) w1 h4 h5 h6 h7 (by
    intro P m d w' hb hp hm
    refine (lit_sg 6 true shi slo true dhi dlo sp dp fl _ _ _ A n c P m d xs _ w' (blk_below hb (by omega) hg1.out) (blk_below hb (by omega) hg2.out) (blk_below hb (by omega) hg3.out) (hx1.out.on hb) hp hn hm).mono ?_
    intro e w'' he
    rw [← hU]
    unfold sgU aheadB
    rw [if_pos rfl, hxl]
    exact he)
  have hK : sgmK 6 true shi slo true dhi dlo sp dp fl ttl = (if sgK sp dp fl = 0 then ttlK ttl else sgK sp dp fl) := by
    unfold sgmK wrapK
    simp
  have hR : wrapB true shi slo dhi dlo 6 ttl U = Six.allB6 0 0 ttl.toNat shi slo dhi dlo 6 [] U := by
    unfold wrapB
    rw [if_pos rfl]
  rw [hU, hK, hR]
  obtain ⟨KK, hKK⟩ : ∃ KK, (if sgK sp dp fl = 0 then ttlK ttl else sgK sp dp fl) = KK := ⟨_, rfl⟩
  rw [hKK] at hwr ⊢
  clear hK hR
  have hcs := blk_cell hg1.out
  have hcd := blk_cell hg2.out
  have hce := blk_cell hg3.out
  unfold tuA at hw1 hcs ⊢
  replace hx := hide hx
  replace hxl := hide hxl
  replace hU := hide hU
  replace hUl := hide hUl
  replace hwr := hide hwr
  replace hKK := hide hKK
  replace hb1 := hide hb1
  clear hg1 hg2 hg3
  go_enter Try.func18, Try.ntmps18
  go_wp2_with fail
  refine hwr.out.mono ?_
  rintro e w4 h4
  have h5 := h4.from hb1.out
  obtain ⟨v4, rfl, h6, h7, h8⟩ := h5
  clear h4 hcs hcd hce hw1
  replace h6 := hide h6
  replace h7 := hide h7
  replace h8 := hide h8
  go_wp2_with fail
  go_ret2
  exact ⟨v4, rfl, h6.out, h7.out, h8.out⟩
set_option maxRecDepth 20000 in
set_option maxHeartbeats 8000000 in
theorem segment_four (shi slo dhi dlo : Nat) (sp dp ttl : Int) (fl : Int) (A : Option Addr) (n c : Nat) (xs : List UInt8) (w : World) (hx : IsB w w.heap.size A n xs) (hn : n ≤ 4000)
    (h4 : shi < 18446744073709551616) (h5 : slo < 18446744073709551616) (h6 : dhi < 18446744073709551616) (h7 : dlo < 18446744073709551616) :
    Calls Try.prog 18 #[.agg (tuA 6 false shi slo false dhi dlo sp dp), .int .i64 ttl, .int .i64 fl, .slice A n c] w fun e w' => InEnd (sgmK 6 false shi slo false dhi dlo sp dp fl ttl) (wrapB false shi slo dhi dlo 6 ttl (sgU false shi slo dhi dlo sp dp fl xs)) w w' e := by
  obtain ⟨w1, hw1⟩ : ∃ w1, ((w.alloc (.cells (tuA 6 false shi slo false dhi dlo sp dp) 32)).alloc (.cells #[.int .i64 fl] 3)).alloc (.cells #[.slice A n c] 22) = w1 := ⟨_, rfl⟩
  have hb1 : Below w.heap.size w w1 := hw1 ▸ (((Below.refl _ _).alloc (Nat.le_refl _) _).alloc (by simp) _).alloc (by simp; omega) _
  have hg1 : w1.heap[w.heap.size]? = some (.cells (tuA 6 false shi slo false dhi dlo sp dp) 32 (0, 0)) := hw1 ▸ blk_old _ (by simp; omega) (blk_old _ (by simp) (blk_new _ _ _))
  have hg2 : w1.heap[w.heap.size + 1]? = some (.cells #[.int .i64 fl] 3 (0, 0)) := hw1 ▸ blk_old _ (by simp) (by simpa using blk_new (w.alloc (.cells (tuA 6 false shi slo false dhi dlo sp dp) 32)) 3 #[.int .i64 fl])
  have hg3 : w1.heap[w.heap.size + 2]? = some (.cells #[.slice A n c] 22 (0, 0)) := hw1 ▸ (by simpa using blk_new ((w.alloc (.cells (tuA 6 false shi slo false dhi dlo sp dp) 32)).alloc (.cells #[.int .i64 fl] 3)) 22 #[.slice A n c])
  have hz1 : w.heap.size + 2 < w1.heap.size := by rw [← hw1]; simp
  have hx1 := hx.on hb1
  have hxl := hx.1
  obtain ⟨U, hU⟩ : ∃ U, sgU false shi slo dhi dlo sp dp fl xs = U := ⟨_, rfl⟩
  have hUl : U.length = 20 + n := by rw [← hU, sgU_length, hxl]
  replace hg1 := hide hg1
  replace hg2 := hide hg2
  replace hg3 := hide hg3
  replace hx1 := hide hx1
  have hwr := wrapS_four 6 (by omega) (by decide) shi slo dhi dlo sp dp ttl ⟨w.heap.size, 0, none⟩ ⟨w.heap.size + 1, 0, none⟩ ⟨w.heap.size + 2, 0, none⟩ (20 + n) (by omega) (sgK sp dp fl) U (by omega) w1 h4 h5 h6 h7 (by
    intro P m d w' hb hp hm
    refine (lit_sg 6 false shi slo false dhi dlo sp dp fl _ _ _ A n c P m d xs _ w' (blk_below hb (by omega) hg1.out) (blk_below hb (by omega) hg2.out) (blk_below hb (by omega) hg3.out) (hx1.out.on hb) hp hn hm).mono ?_
    intro e w'' he
    rw [← hU]
    unfold sgU aheadB
    rw [if_neg (by simp), hxl]
    exact he)
  have hK : sgmK 6 false shi slo false dhi dlo sp dp fl ttl = (if sgK sp dp fl = 0 then fourK ttl shi slo dhi dlo else sgK sp dp fl) := by
    unfold sgmK wrapK
    simp
  have hR : wrapB false shi slo dhi dlo 6 ttl U = Four.hdB 0 0 0 ttl.toNat 6 slo dlo [] U.length ++ U := by
    unfold wrapB
    rw [if_neg (by simp)]
  rw [hU, hK, hR]
  obtain ⟨KK, hKK⟩ : ∃ KK, (if sgK sp dp fl = 0 then fourK ttl shi slo dhi dlo else sgK sp dp fl) = KK := ⟨_, rfl⟩
  rw [hKK] at hwr ⊢
  clear hK hR
  have hcs := blk_cell hg1.out
  have hcd := blk_cell hg2.out
  have hce := blk_cell hg3.out
  unfold tuA at hw1 hcs ⊢
  replace hx := hide hx
  replace hxl := hide hxl
  replace hU := hide hU
  replace hUl := hide hUl
  replace hwr := hide hwr
  replace hKK := hide hKK
  replace hb1 := hide hb1
  clear hg1 hg2 hg3
  go_enter Try.func18, Try.ntmps18
  go_wp2_with fail
  refine hwr.out.mono ?_
  rintro e w4 h4
  have h5 := h4.from hb1.out
  obtain ⟨v4, rfl, h6, h7, h8⟩ := h5
  clear h4 hcs hcd hce hw1
  replace h6 := hide h6
  replace h7 := hide h7
  replace h8 := hide h8
  go_wp2_with fail
  go_ret2
  exact ⟨v4, rfl, h6.out, h7.out, h8.out⟩
end Pkt
end Go.Proofs.Ytfmmmjaficbchaa
