/- nat.Turn of a packet that can be turned, and the law's awake: it is true. Conditions: a slice of bytes that reads as such a packet. -/
import Derived.Test.YtfmmmjaficbchaaQNatFlows18
import Derived.Test.YtfmmmjaficbchaaQNatFlows17
import Derived.Test.YtfmmmjaficbchaaQNatFlows2
import Derived.Test.YtfmmmjaficbchaaQNatFlows16
import Derived.Test.YtfmmmjaficbchaaQNatFlows15
namespace Go.Proofs.Ytfmmmjaficbchaa
open Go.RowKit Go.ChangeShapes Go.WideShapes Go.ChangeAt Go.Deep
namespace Nat15
open Pkt (InEnd End2 pkZ IsG pkG alloc_pk size_pk pkZ_size pkZ_one PIs pkA pkA_one wrapB dgU sgU dgmK tuA)
theorem turn4_any {n : Nat} {xs : List UInt8} {al e : Nat} {udp : Bool} {R : List UInt8} {slo dlo sp dp ttl fl : Nat} (h : Turn4 n xs al e udp R slo dlo sp dp ttl fl) (hn : n ≤ 4000) (s tlo port was : Nat) (hs : s ≤ 1) (hw : (if s = 0 then slo else dlo) = was) (ht : tlo < 4294967296) (hport : port ≤ 65535) (A : Option Addr) (c : Nat) (w : World) (hx : IsB w w.heap.size A n xs) (hnc : n ≤ c) (hcm : c ≤ maxLen) :
    Calls Try.prog 11 #[.slice A n c, .int .i64 (s : Int), .agg #[.bool false, .int .u64 ((0 : Nat) : Int), .int .u64 (tlo : Int)], .int .i64 (port : Int)] w fun en w' => InEnd 0 (natB4 xs al e udp R s tlo port was) w w' en := by
  obtain ⟨s1, s2, s3, s4, s5, s6, s7, s8, s9⟩ := h.sizes
  obtain ⟨u1, u2⟩ := h.up.port_le
  have hl := h.up.len
  have hP := h.pis hn
  rw [← turn_out4 h s tlo port was _ hs hw rfl]
  refine turn_any false udp n c al (12 + 4 * s) 4 e s xs 0 slo 0 dlo sp dp ttl fl 0 tlo port 0 was _ A w hx hnc hcm hn hs hP (fun w hx => place4 n xs h.ok.h2 h.ok.h1 s hs e h.he A c w hx) (by simp [Four.okA]; omega) (by omega) (by omega) hport u1 u2 (by omega) (by omega) (by omega) (by omega) (by split <;> rfl) hw rfl s4 (by omega) rfl (by omega) (by omega) (by omega)
theorem turn6_any {n : Nat} {xs : List UInt8} {acc : List (Int × List UInt8)} {e : Nat} {udp : Bool} {R : List UInt8} {shi slo dhi dlo sp dp ttl fl : Nat} (h : Turn6 n xs acc e udp R shi slo dhi dlo sp dp ttl fl) (hn : n ≤ 4000) (s thi tlo port whi wlo : Nat) (hs : s ≤ 1) (hwh : (if s = 0 then shi else dhi) = whi) (hwl : (if s = 0 then slo else dlo) = wlo) (ht1 : thi < 18446744073709551616) (ht2 : tlo < 18446744073709551616) (hport : port ≤ 65535) (A : Option Addr) (c : Nat) (w : World) (hx : IsB w w.heap.size A n xs) (hnc : n ≤ c) (hcm : c ≤ maxLen) :
    Calls Try.prog 11 #[.slice A n c, .int .i64 (s : Int), .agg #[.bool true, .int .u64 (thi : Int), .int .u64 (tlo : Int)], .int .i64 (port : Int)] w fun en w' => InEnd 0 (natB6 xs e udp R s thi tlo port whi wlo) w w' en := by
  obtain ⟨s1, s2, s3, s4, s5, s6, s7, s8, s9⟩ := h.sizes
  obtain ⟨u1, u2⟩ := h.up.port_le
  have hl := h.up.len
  have hP := h.pis hn
  obtain ⟨f1, f2, f3, f4, f5, f6, f7, f8⟩ := h.ok.facts
  rw [← turn_out6 h s thi tlo port whi wlo _ hs rfl]
  refine turn_any true udp n c (e + R.length) (8 + 16 * s) 16 e s xs shi slo dhi dlo sp dp ttl fl thi tlo port whi wlo _ A w hx hnc hcm hn hs hP (fun w hx => place6 n xs _ _ _ _ _ _ _ _ _ acc (prN udp) R.length R (h.ok.is (by omega)) f6 f7 (by omega) (by omega) s hs e h.he (by omega) A c w hx hnc hcm) rfl ht1 ht2 hport u1 u2 s5 s6 s7 s8 hwh hwl rfl s2 (by omega) (by unfold addrB; rw [if_pos rfl, List.length_append, beB_length, beB_length]) (by omega) (by omega) (by omega)
set_option maxRecDepth 20000 in
set_option maxHeartbeats 8000000 in
theorem awake_any (w : World) : Calls Try.prog 14 #[] w fun e w' => e = .returned (.bool true) ∧ Below w.heap.size w w' := by
  have hT := turn_dg4 0 167772161 0 0 9 [] 28 rfl (by omega) (by omega) (by omega) (by omega) (by omega) (by simp)
  obtain ⟨U, hU⟩ : ∃ U, dgU false 0 0 0 167772161 (0 : Nat) (0 : Nat) [] = U := ⟨_, rfl⟩
  rw [hU] at hT
  obtain ⟨B, hBe⟩ : ∃ B, wrapB false 0 0 0 167772161 17 (9 : Nat) U = B := ⟨_, rfl⟩
  rw [hBe] at hT
  obtain ⟨X, hX⟩ : ∃ X, natB4 B 28 20 true U 1 167772162 7 167772161 = X := ⟨_, rfl⟩
  have hT2 := hT.turn 1 167772162 7 (by omega) (by omega) (by omega)
  have hTt := fun A c w hx hnc hcm => turn4_any hT (by omega) 1 167772162 7 167772161 (by omega) rfl (by omega) (by omega) A c w hx hnc hcm
  rw [show (if (1 : Nat) = 0 then 0 else 167772161) = 167772161 from rfl, hX] at hT2
  rw [hX] at hTt
  have hP : PIs 28 X 0 (pkA false 17 0 0 0 167772162 (0 : Nat) (7 : Nat) (9 : Nat) (0 : Nat) (28 : Nat)) := hT2.pis (by omega)
  have hXl : X.length = 28 := hT2.ok.len
  have hBl : B.length = 28 := hT.ok.len
  have hD : ∀ w : World, Calls Try.prog 16 #[.agg (tuA 17 false 0 0 false 0 167772161 0 0), .int .i64 9, .slice none 0 0] w fun e w' => InEnd 0 B w w' e := fun w => by
    have := Pkt.datagram_any 17 false 0 0 false 0 167772161 0 0 9 none 0 0 [] w (IsB.nil _ _ _) (by omega) (by omega) (by omega) (by omega) (by omega)
    rw [show dgmK 17 false ((0 : Nat) : Int) ((0 : Nat) : Int) false ((0 : Nat) : Int) ((167772161 : Nat) : Int) 0 0 9 = 0 by decide] at this
    have hw : wrapB false 0 0 0 167772161 17 9 (dgU false 0 0 0 167772161 0 0 []) = B := by
      rw [← hBe, ← hU]
      rfl
    rw [hw] at this
    exact this
  unfold tuA at hD
  clear hT hT2 hX hBe hU
  obtain ⟨y, hy⟩ : ∃ y, pkA false 17 0 0 0 167772162 (0 : Nat) (7 : Nat) (9 : Nat) (0 : Nat) (28 : Nat) = y := ⟨_, rfl⟩
  rw [hy] at hP
  have hys : y.size = 23 := hy ▸ rfl
  have hyo : y.all (·.oneCell') = true := hy ▸ pkA_one _ _ _ _ _ _ _ _ _ _ _
  have hB := Below.refl w.heap.size w
  replace hTt := hide hTt
  replace hP := hide hP
  replace hXl := hide hXl
  replace hBl := hide hBl
  replace hD := hide hD
  replace hy := hide hy
  replace hys := hide hys
  replace hyo := hide hyo
  replace hB := hide hB
  go_enter Try.func14, Try.ntmps14
  go_wp2_with fail
  refine (Four.v4_any 167772161 _ (by omega) (by omega)).mono ?_
  rintro e w1 ⟨rfl, hb1⟩
  replace hB := hide (hB.out.trans (hb1.mono hB.out.size))
  clear hb1
  go_wp2_with fail
  refine (hD.out _).mono ?_
  rintro e w2 ⟨v2, rfl, h2, -, hb2⟩
  have hown2 := h2 rfl
  obtain ⟨A2, c2, rfl, hc2, hm2, hi2⟩ := hown2.form
  rw [hBl.out] at hc2 hi2 ⊢
  clear h2 hown2
  replace hB := hide (hB.out.trans (hb2.mono hB.out.size))
  clear hb2
  replace hi2 := hide hi2
  go_wp2_with fail
  refine (Four.v4_any 167772162 _ (by omega) (by omega)).mono ?_
  rintro e w3 ⟨rfl, hb3⟩
  replace hB := hide (hB.out.trans (hb3.mono hB.out.size))
  replace hi2 := hide (hi2.out.on hb3)
  clear hb3
  go_wp2_with fail
  refine (hTt.out A2 c2 _ hi2.out hc2 hm2).mono ?_
  rintro e w4 ⟨v4, rfl, h4, -, hb4⟩
  obtain ⟨A4, c4, rfl, hc4, hm4, hi4⟩ := (h4 rfl).form
  rw [hXl.out] at hc4 hi4 ⊢
  clear h4
  replace hB := hide (hB.out.trans (hb4.mono hB.out.size))
  replace hi2 := hide (hi2.out.on hb4)
  clear hb4
  clear hi2
  replace hi4 := hide hi4
  go_upto_region 3 with fail
  apply wp_region_lit
  iterate 1 (refine wpList_plain rfl fun K hK => ?_; go_simp; refine hK _ _ ?_; clear hK K)
  refine wpList_plain rfl fun K hK => ?_
  go_simp
  refine (hP.out _ c4 _ hi4.out hc4 hm4).mono ?_
  rintro e w5 hE
  obtain ⟨rfl, hb5⟩ := hE
  rw [if_pos rfl]
  replace hB := hide (hB.out.trans (hb5.mono hB.out.size))
  clear hb5
  go_simp
  refine hK _ _ ?_
  clear hK K
  iterate 3 (refine wpList_plain rfl fun K hK => ?_; go_simp; refine hK _ _ ?_; clear hK K)
  refine wpl_new rfl rfl 34 _ (alloc_pk _ rfl) 5 rfl (.tmp 22) rfl _ (fun _ => rfl) (fun _ => rfl) (by rw [pkZ_size]; exact hys.out) (by rw [size_pk, hys.out]) hyo.out ?_
  intro w6 hg6 hb6 hz6
  replace hB := hide (hB.out.trans (hb6.mono hB.out.size))
  clear hb6
  iterate 1 (refine wpList_plain rfl fun K hK => ?_; go_simp; refine hK _ _ ?_; clear hK K)
  refine wpList_nil ?_
  have hgy := hg6
  rw [← hy.out] at hgy
  unfold pkA at hgy
  have zy := blk_lt hgy
  have hcyL := fun (l : Later w6) (o : Nat) => blk_cell (blk_below l.hb zy hgy) o
  clear hgy hg6
  go_upto_region 4 with fail
  refine wp_region_L (by as_aux_lemma => kernel_rfl) ?_
  refine wpE_seg 0 26 (fuel := 0) (by as_aux_lemma => kernel_rfl) (fun d _ _ _ _ h => by cases d <;> exact h) (by as_aux_lemma => kernel_rfl) (by as_aux_lemma => kernel_rfl) ?_
  simp only [List.drop_zero, List.take_succ_cons, List.take_zero]
  iterate 14 (refine wpQE_step (fun K hK => ?_); go_simp; refine hK _ ?_; clear hK K)
  (refine wpQE_step (fun K hK => ?_); go_simp; apply Exists.intro; refine ⟨fun l => ?_, hK _ ?_⟩; (go_at_call 39; refine (Four.v4_any 167772162 _ (by omega) (by omega)).mono ?_; rintro e w' ⟨rfl, hb⟩; exact ⟨rfl, hb⟩); clear hK K)
  iterate 11 (refine wpQE_step (fun K hK => ?_); go_simp; refine hK _ ?_; clear hK K)
  refine wpQE_nil ?_
  clear hcyL
  refine wpE_done (by as_aux_lemma => kernel_rfl) (fun w7 hb7 => ?_) 0
  replace hB := hide (hB.out.trans (hb7.mono hB.out.size))
  clear hb7
  go_wp2_with fail
  go_ret
  exact ⟨by rfl, hB.out⟩
end Nat15
end Go.Proofs.Ytfmmmjaficbchaa
/- The law's turned, by contract. No condition. -/
namespace Go.Proofs.Ytfmmmjaficbchaa
open Go.RowKit Go.ChangeShapes Go.WideShapes Go.ChangeAt Go.Deep
namespace Nat15
open Pkt (InEnd End2 pkZ IsG pkG alloc_pk size_pk pkZ_size pkZ_one PIs pkA pkA_one wrapB dgU sgU dgmK tuA tuA_one)
set_option maxRecDepth 20000 in
set_option maxHeartbeats 8000000 in
theorem turned_any (pr : Int) (sv : Bool) (shi slo : Int) (dv : Bool) (dhi dlo sp dp : Int) (s : Int) (tv : Bool) (thi tlo : Int) (port : Int) (w : World) :
    Calls Try.prog 15 #[.agg (tuA pr sv shi slo dv dhi dlo sp dp), .int .i64 s, .agg #[.bool tv, .int .u64 thi, .int .u64 tlo], .int .i64 port] w fun e w' =>
      e = .returned (.agg (if s = 0 then tuA pr tv thi tlo dv dhi dlo port dp else tuA pr sv shi slo tv thi tlo sp port)) ∧ Below w.heap.size w w' := by
  unfold tuA
  obtain ⟨w1, hw1⟩ : ∃ w1, ((w.alloc (.cells #[.int .i64 pr, .bool sv, .int .u64 shi, .int .u64 slo, .bool dv, .int .u64 dhi, .int .u64 dlo, .int .i64 sp, .int .i64 dp] 32)).alloc (.cells #[.bool tv, .int .u64 thi, .int .u64 tlo] 26)).alloc (.cells #[.int .i64 0, .bool false, .int .u64 0, .int .u64 0, .bool false, .int .u64 0, .int .u64 0, .int .i64 0, .int .i64 0] 32) = w1 := ⟨_, rfl⟩
  have hB : Below w.heap.size w w1 := hw1 ▸ (((Below.refl _ _).alloc (Nat.le_refl _) _).alloc (by simp) _).alloc (by simp; omega) _
  replace hB := hide hB
  go_enter Try.func15, Try.ntmps15
  have hg4 : w1.heap[w.heap.size]? = some (.cells #[.int .i64 pr, .bool sv, .int .u64 shi, .int .u64 slo, .bool dv, .int .u64 dhi, .int .u64 dlo, .int .i64 sp, .int .i64 dp] 32 (0, 0)) := hw1 ▸ blk_old _ (by simp; omega) (blk_old _ (by simp) (blk_new _ _ _))
  have hg6 : w1.heap[w.heap.size + 1]? = some (.cells #[.bool tv, .int .u64 thi, .int .u64 tlo] 26 (0, 0)) := hw1 ▸ blk_old _ (by simp) (by simpa using blk_new (w.alloc (.cells #[.int .i64 pr, .bool sv, .int .u64 shi, .int .u64 slo, .bool dv, .int .u64 dhi, .int .u64 dlo, .int .i64 sp, .int .i64 dp] 32)) 26 #[.bool tv, .int .u64 thi, .int .u64 tlo])
  have hg8 : w1.heap[w.heap.size + 2]? = some (.cells #[.int .i64 0, .bool false, .int .u64 0, .int .u64 0, .bool false, .int .u64 0, .int .u64 0, .int .i64 0, .int .i64 0] 32 (0, 0)) := hw1 ▸ (by simpa using blk_new ((w.alloc (.cells #[.int .i64 pr, .bool sv, .int .u64 shi, .int .u64 slo, .bool dv, .int .u64 dhi, .int .u64 dlo, .int .i64 sp, .int .i64 dp] 32)).alloc (.cells #[.bool tv, .int .u64 thi, .int .u64 tlo] 26)) 32 #[.int .i64 0, .bool false, .int .u64 0, .int .u64 0, .bool false, .int .u64 0, .int .u64 0, .int .i64 0, .int .i64 0])
  have hca := blk_cell hg6
  replace hg4 := hide hg4
  replace hg6 := hide hg6
  replace hg8 := hide hg8
  go_upto_region 1 with fail
  by_cases h0 : s = 0
  · subst h0
    go_upto_region 2 with fail
    clear hw1
    apply wp_region_lit
    iterate 2 (refine wpList_plain rfl fun K hK => ?_; go_simp; refine hK _ _ ?_; clear hK K)
    clear hca
    refine wpl_st rfl 26 (.tmp 12) (.tmp 11) rfl w.heap.size 1 rfl #[.bool tv, .int .u64 thi, .int .u64 tlo] rfl hg4.out (show 1 + 3 ≤ 9 by omega) (by kernel_rfl) (ad_one _ _ _) fun w2 hg2 g2 => ?_
    rw [show putA #[.int .i64 pr, .bool sv, .int .u64 shi, .int .u64 slo, .bool dv, .int .u64 dhi, .int .u64 dlo, .int .i64 sp, .int .i64 dp] 1 (#[.bool tv, .int .u64 thi, .int .u64 tlo] : Array Value).toList = #[.int .i64 pr, .bool tv, .int .u64 thi, .int .u64 tlo, .bool dv, .int .u64 dhi, .int .u64 dlo, .int .i64 sp, .int .i64 dp] from rfl] at hg2
    have hb2 : Below w.heap.size w w2 := hB.out.trans (below_grown g2 hB.out.size (Nat.le_refl _))
    have hg82 := grown_other g2 (blk_lt hg8.out) (show w.heap.size + 2 ≠ w.heap.size by omega) hg8.out
    have hc7 := blk_cell hg2 7
    have hf7 := blk_free hg2 7
    obtain ⟨w3, e3, hg3, g3⟩ := store_cell hg2 7 (.int .i64 port)
    rw [show ((#[.int .i64 pr, .bool tv, .int .u64 thi, .int .u64 tlo, .bool dv, .int .u64 dhi, .int .u64 dlo, .int .i64 sp, .int .i64 dp] : Array Value).setIfInBounds 7 (.int .i64 port)) = #[.int .i64 pr, .bool tv, .int .u64 thi, .int .u64 tlo, .bool dv, .int .u64 dhi, .int .u64 dlo, .int .i64 port, .int .i64 dp] from rfl] at hg3
    have hb3 : Below w.heap.size w w3 := hb2.trans (below_grown g3 hb2.size (Nat.le_refl _))
    have hg83 := grown_other g3 (blk_lt hg82) (show w.heap.size + 2 ≠ w.heap.size by omega) hg82
    clear g2 g3 hg2 hg82 hb2
    replace hg3 := hide hg3
    replace hb3 := hide hb3
    replace hg83 := hide hg83
    refine wpList_nil ?_
    go_upto_region 6 with fail
    clear e3 hc7 hf7
    apply wp_region_lit
    refine wpl_ld rfl 32 (.tmp 4) rfl w.heap.size rfl #[.int .i64 pr, .bool tv, .int .u64 thi, .int .u64 tlo, .bool dv, .int .u64 dhi, .int .u64 dlo, .int .i64 port, .int .i64 dp] _ hg3.out Try.underlying32 rfl (by kernel_rfl) ?_
    refine wpl_st rfl 32 (.tmp 8) (.tmp 19) rfl (w.heap.size + 2) 0 rfl #[.int .i64 pr, .bool tv, .int .u64 thi, .int .u64 tlo, .bool dv, .int .u64 dhi, .int .u64 dlo, .int .i64 port, .int .i64 dp] rfl hg83.out (show 0 + 9 ≤ 9 by omega) (by kernel_rfl) (tuA_one _ _ _ _ _ _ _ _ _) fun w4 hg4 g4 => ?_
    rw [putA_whole _ _ (by rfl)] at hg4
    have hb4 : Below w.heap.size w w4 := hb3.out.trans (below_grown g4 hb3.out.size (by omega))
    have hld : (loadVar 32 ⟨w.heap.size + 1 + 1, 0, none⟩).run Try.prog w4 = .ok (.agg (tuA pr tv thi tlo dv dhi dlo port dp)) w4 := by
      simpa using run_loadVar_mid w4 (w.heap.size + 2) 0 32 (tuA pr tv thi tlo dv dhi dlo port dp).toList _ (blk_range hg4) Try.underlying32 rfl (by kernel_rfl)
    clear hg4 g4
    replace hld := hide hld
    replace hb4 := hide hb4
    refine wpList_nil ?_
    go_wp2_with fail
    exact bodyPost_ret (v := .agg (tuA pr tv thi tlo dv dhi dlo port dp)) (by simp [results, Try.results15, asAddr, hld.out, Result.andThen]) rfl ⟨by first | rfl | (rw [if_pos rfl]; rfl) | (rw [if_neg h0]; rfl), hb4.out⟩
  · have h0b : (s == 0) = false := by rw [beq_eq_false_iff_ne]; exact h0
    go_upto_region 4 with fail
    clear hw1
    apply wp_region_lit
    iterate 2 (refine wpList_plain rfl fun K hK => ?_; go_simp; refine hK _ _ ?_; clear hK K)
    clear hca
    refine wpl_st rfl 26 (.tmp 16) (.tmp 15) rfl w.heap.size 4 rfl #[.bool tv, .int .u64 thi, .int .u64 tlo] rfl hg4.out (show 4 + 3 ≤ 9 by omega) (by kernel_rfl) (ad_one _ _ _) fun w2 hg2 g2 => ?_
    rw [show putA #[.int .i64 pr, .bool sv, .int .u64 shi, .int .u64 slo, .bool dv, .int .u64 dhi, .int .u64 dlo, .int .i64 sp, .int .i64 dp] 4 (#[.bool tv, .int .u64 thi, .int .u64 tlo] : Array Value).toList = #[.int .i64 pr, .bool sv, .int .u64 shi, .int .u64 slo, .bool tv, .int .u64 thi, .int .u64 tlo, .int .i64 sp, .int .i64 dp] from rfl] at hg2
    have hb2 : Below w.heap.size w w2 := hB.out.trans (below_grown g2 hB.out.size (Nat.le_refl _))
    have hg82 := grown_other g2 (blk_lt hg8.out) (show w.heap.size + 2 ≠ w.heap.size by omega) hg8.out
    have hc7 := blk_cell hg2 8
    have hf7 := blk_free hg2 8
    obtain ⟨w3, e3, hg3, g3⟩ := store_cell hg2 8 (.int .i64 port)
    rw [show ((#[.int .i64 pr, .bool sv, .int .u64 shi, .int .u64 slo, .bool tv, .int .u64 thi, .int .u64 tlo, .int .i64 sp, .int .i64 dp] : Array Value).setIfInBounds 8 (.int .i64 port)) = #[.int .i64 pr, .bool sv, .int .u64 shi, .int .u64 slo, .bool tv, .int .u64 thi, .int .u64 tlo, .int .i64 sp, .int .i64 port] from rfl] at hg3
    have hb3 : Below w.heap.size w w3 := hb2.trans (below_grown g3 hb2.size (Nat.le_refl _))
    have hg83 := grown_other g3 (blk_lt hg82) (show w.heap.size + 2 ≠ w.heap.size by omega) hg82
    clear g2 g3 hg2 hg82 hb2
    replace hg3 := hide hg3
    replace hb3 := hide hb3
    replace hg83 := hide hg83
    refine wpList_nil ?_
    go_upto_region 6 with fail
    clear e3 hc7 hf7
    apply wp_region_lit
    refine wpl_ld rfl 32 (.tmp 4) rfl w.heap.size rfl #[.int .i64 pr, .bool sv, .int .u64 shi, .int .u64 slo, .bool tv, .int .u64 thi, .int .u64 tlo, .int .i64 sp, .int .i64 port] _ hg3.out Try.underlying32 rfl (by kernel_rfl) ?_
    refine wpl_st rfl 32 (.tmp 8) (.tmp 19) rfl (w.heap.size + 2) 0 rfl #[.int .i64 pr, .bool sv, .int .u64 shi, .int .u64 slo, .bool tv, .int .u64 thi, .int .u64 tlo, .int .i64 sp, .int .i64 port] rfl hg83.out (show 0 + 9 ≤ 9 by omega) (by kernel_rfl) (tuA_one _ _ _ _ _ _ _ _ _) fun w4 hg4 g4 => ?_
    rw [putA_whole _ _ (by rfl)] at hg4
    have hb4 : Below w.heap.size w w4 := hb3.out.trans (below_grown g4 hb3.out.size (by omega))
    have hld : (loadVar 32 ⟨w.heap.size + 1 + 1, 0, none⟩).run Try.prog w4 = .ok (.agg (tuA pr sv shi slo tv thi tlo sp port)) w4 := by
      simpa using run_loadVar_mid w4 (w.heap.size + 2) 0 32 (tuA pr sv shi slo tv thi tlo sp port).toList _ (blk_range hg4) Try.underlying32 rfl (by kernel_rfl)
    clear hg4 g4
    replace hld := hide hld
    replace hb4 := hide hb4
    refine wpList_nil ?_
    go_wp2_with fail
    exact bodyPost_ret (v := .agg (tuA pr sv shi slo tv thi tlo sp port)) (by simp [results, Try.results15, asAddr, hld.out, Result.andThen]) rfl ⟨by first | rfl | (rw [if_pos rfl]; rfl) | (rw [if_neg h0]; rfl), hb4.out⟩
end Nat15
end Go.Proofs.Ytfmmmjaficbchaa
/- nat.Turn by contract, where nothing is turned. Conditions: what pkt.Parse makes of the bytes is known. -/
namespace Go.Proofs.Ytfmmmjaficbchaa
open Go.RowKit Go.ChangeShapes Go.WideShapes Go.ChangeAt Go.Deep
namespace Nat15
open Pkt (InEnd End2 pkZ IsG pkG alloc_pk size_pk pkZ_size pkZ_one PIs pkG_one)
set_option maxRecDepth 20000 in
set_option maxHeartbeats 8000000 in
theorem turn_bad (n c K : Nat) (xs U : List UInt8) (y : Array Value) (hK0 : K ≠ 0) (s : Int) (tv : Bool) (thi tlo : Nat) (port : Int) (A : Option Addr) (w : World) (hx : IsB w w.heap.size A n xs) (hnc : n ≤ c) (hcm : c ≤ maxLen) (hP : PIs n xs K y) :
    Calls Try.prog 11 #[.slice A n c, .int .i64 s, .agg #[.bool tv, .int .u64 (thi : Int), .int .u64 (tlo : Int)], .int .i64 port] w fun en w' => InEnd K U w w' en := by
  obtain ⟨w1, hw1⟩ : ∃ w1, w.alloc (.cells #[.bool tv, .int .u64 (thi : Int), .int .u64 (tlo : Int)] 26) = w1 := ⟨_, rfl⟩
  have hB : Below w.heap.size w w1 := hw1 ▸ (Below.refl _ _).alloc (Nat.le_refl _) _
  have t1 : ((K : Int) != 0) = true := by rw [bne_iff_ne]; omega
  replace hx := hx.on hB
  have hzo : pkZ.all (·.oneCell') = true := pkZ_one
  have hzs : pkZ.size = 23 := pkZ_size
  replace hP := hide hP
  replace hx := hide hx
  replace hzo := hide hzo
  replace hzs := hide hzs
  replace hB := hide hB
  go_enter Try.func11, Try.ntmps11
  go_upto_region 1 with fail
  apply wp_region_lit
  clear hw1
  iterate 1 (refine wpList_plain rfl fun K hK => ?_; go_simp; refine hK _ _ ?_; clear hK K)
  refine wpList_plain rfl fun K hK => ?_
  go_simp
  refine (hP.out _ c _ hx.out hnc hcm).mono ?_
  rintro e w2 hE
  obtain ⟨rfl, hb2⟩ := hE
  rw [if_neg hK0]
  obtain ⟨z, hz⟩ : ∃ z, pkZ = z := ⟨_, rfl⟩
  rw [hz] at hzo hzs ⊢
  replace hB := hide (hB.out.trans (hb2.mono hB.out.size))
  clear hb2
  replace hz := hide hz
  go_simp
  refine hK _ _ ?_
  clear hK K
  iterate 3 (refine wpList_plain rfl fun K hK => ?_; go_simp; refine hK _ _ ?_; clear hK K)
  refine wpl_new rfl rfl 34 _ (alloc_pk _ rfl) 10 rfl (.tmp 22) rfl _ (fun _ => rfl) (fun _ => rfl) (by rw [pkZ_size]; exact hzs.out) (by rw [size_pk, hzs.out]) hzo.out ?_
  intro w3 hg3 hb3 hz3
  replace hB := hide (hB.out.trans (hb3.mono hB.out.size))
  clear hb3
  iterate 1 (refine wpList_plain rfl fun K hK => ?_; go_simp; refine hK _ _ ?_; clear hK K)
  refine wpList_nil ?_
  have hfin := InEnd.no U hK0 hB.out
  clear hg3
  replace hfin := hide hfin
  go_wp2_with fail
  go_ret2
  exact hfin.out
set_option maxRecDepth 20000 in
set_option maxHeartbeats 8000000 in
theorem turn_arg (n c : Nat) (xs U : List UInt8) (y : Array Value) (v6 : Bool) (pr : Int) (sv : Bool) (shi slo : Int) (dv : Bool) (dhi dlo sp dp ttl : Int) (fl : Int) (er : Bool) (apr : Int) (asv : Bool) (ashi aslo : Int) (adv : Bool) (adhi adlo asp adp sz : Int)
    (hy : pkG v6 pr sv shi slo dv dhi dlo sp dp ttl fl er apr asv ashi aslo adv adhi adlo asp adp sz = y) (s : Int) (tv : Bool) (thi tlo : Nat) (port : Int) (hbad : (s ≠ 0 ∧ s ≠ 1) ∨ port < 0 ∨ 65535 < port ∨ er = true) (A : Option Addr) (w : World) (hx : IsB w w.heap.size A n xs) (hnc : n ≤ c) (hcm : c ≤ maxLen) (hP : PIs n xs 0 y) :
    Calls Try.prog 11 #[.slice A n c, .int .i64 s, .agg #[.bool tv, .int .u64 (thi : Int), .int .u64 (tlo : Int)], .int .i64 port] w fun en w' => InEnd 1 U w w' en := by
  obtain ⟨w1, hw1⟩ : ∃ w1, w.alloc (.cells #[.bool tv, .int .u64 (thi : Int), .int .u64 (tlo : Int)] 26) = w1 := ⟨_, rfl⟩
  have hB : Below w.heap.size w w1 := hw1 ▸ (Below.refl _ _).alloc (Nat.le_refl _) _
  replace hx := hx.on hB
  have hys : y.size = 23 := hy ▸ rfl
  have hyo : y.all (·.oneCell') = true := hy ▸ pkG_one _ _ _ _ _ _ _ _ _ _ _ _ _ _ _ _ _ _ _ _ _ _ _
  replace hP := hide hP
  replace hx := hide hx
  replace hys := hide hys
  replace hyo := hide hyo
  replace hy := hide hy
  replace hbad := hide hbad
  replace hB := hide hB
  go_enter Try.func11, Try.ntmps11
  go_upto_region 1 with fail
  apply wp_region_lit
  clear hw1
  iterate 1 (refine wpList_plain rfl fun K hK => ?_; go_simp; refine hK _ _ ?_; clear hK K)
  refine wpList_plain rfl fun K hK => ?_
  go_simp
  refine (hP.out _ c _ hx.out hnc hcm).mono ?_
  rintro e w2 hE
  obtain ⟨rfl, hb2⟩ := hE
  rw [if_pos rfl]
  replace hB := hide (hB.out.trans (hb2.mono hB.out.size))
  clear hb2
  go_simp
  refine hK _ _ ?_
  clear hK K
  iterate 3 (refine wpList_plain rfl fun K hK => ?_; go_simp; refine hK _ _ ?_; clear hK K)
  refine wpl_new rfl rfl 34 _ (alloc_pk _ rfl) 10 rfl (.tmp 22) rfl _ (fun _ => rfl) (fun _ => rfl) (by rw [pkZ_size]; exact hys.out) (by rw [size_pk, hys.out]) hyo.out ?_
  intro w3 hg3 hb3 hz3
  replace hB := hide (hB.out.trans (hb3.mono hB.out.size))
  clear hb3
  iterate 1 (refine wpList_plain rfl fun K hK => ?_; go_simp; refine hK _ _ ?_; clear hK K)
  refine wpList_nil ?_
  have hfin := InEnd.no U (show 1 ≠ 0 by omega) hB.out
  have hgy := hg3
  rw [← hy.out] at hgy
  unfold pkG at hgy
  have hcy := blk_cell hgy
  clear hgy hg3
  replace hfin := hide hfin
  go_upto_region 4 with fail
  go_cut [28] (fun bv wx => bv = .bool true ∧ w3 = wx)
  case first =>
    have hb := hbad.out
    by_cases e0 : s = 0
    · subst e0
      have hb2 : port < 0 ∨ 65535 < port ∨ er = true := by
        rcases hb with h | h
        · omega
        · exact h
      by_cases q1 : port < 0
      · clear hb hb2
        go_wp2_with fail
        go_meet
        refine ⟨?_, rfl⟩
        congr 1
      by_cases q2 : 65535 < port
      · clear hb hb2
        go_wp2_with fail
        go_meet
        refine ⟨?_, rfl⟩
        congr 1
      obtain rfl : er = true := by
        rcases hb2 with h | h | h
        · omega
        · omega
        · exact h
      clear hb hb2
      go_wp2_with fail
      go_meet
      refine ⟨?_, rfl⟩
      congr 1
    have e0b : (s != 0) = true := by rw [bne_iff_ne]; exact e0
    by_cases e1 : s = 1
    · subst e1
      have hb2 : port < 0 ∨ 65535 < port ∨ er = true := by
        rcases hb with h | h
        · omega
        · exact h
      by_cases q1 : port < 0
      · clear hb hb2
        go_wp2_with fail
        go_meet
        refine ⟨?_, rfl⟩
        congr 1
      by_cases q2 : 65535 < port
      · clear hb hb2
        go_wp2_with fail
        go_meet
        refine ⟨?_, rfl⟩
        congr 1
      obtain rfl : er = true := by
        rcases hb2 with h | h | h
        · omega
        · omega
        · exact h
      clear hb hb2
      go_wp2_with fail
      go_meet
      refine ⟨?_, rfl⟩
      congr 1
    have e1b : (s != 1) = true := by rw [bne_iff_ne]; exact e1
    clear hb e0 e1
    go_wp2_with fail
    go_meet
    exact ⟨rfl, rfl⟩
  case rest =>
  obtain ⟨rfl, rfl⟩ := hcut
  clear hcy
  go_wp2_with fail
  go_ret2
  exact hfin.out
set_option maxRecDepth 20000 in
set_option maxHeartbeats 8000000 in
theorem turn_addr (n c : Nat) (xs U : List UInt8) (y : Array Value) (v6 : Bool) (pr : Int) (sv : Bool) (shi slo : Int) (dv : Bool) (dhi dlo sp dp ttl : Int) (fl : Int) (apr : Int) (asv : Bool) (ashi aslo : Int) (adv : Bool) (adhi adlo asp adp sz : Int)
    (hy : pkG v6 pr sv shi slo dv dhi dlo sp dp ttl fl false apr asv ashi aslo adv adhi adlo asp adp sz = y) (s : Int) (tv : Bool) (thi tlo : Nat) (port : Int) (hs : s = 0 ∨ s = 1) (p1 : 0 ≤ port) (p2 : port ≤ 65535) (hbad : tv ≠ v6 ∨ Four.okA tv (thi : Int) (tlo : Int) = false) (A : Option Addr) (w : World) (hx : IsB w w.heap.size A n xs) (hnc : n ≤ c) (hcm : c ≤ maxLen) (hP : PIs n xs 0 y) :
    Calls Try.prog 11 #[.slice A n c, .int .i64 s, .agg #[.bool tv, .int .u64 (thi : Int), .int .u64 (tlo : Int)], .int .i64 port] w fun en w' => InEnd 18 U w w' en := by
  obtain ⟨w1, hw1⟩ : ∃ w1, w.alloc (.cells #[.bool tv, .int .u64 (thi : Int), .int .u64 (tlo : Int)] 26) = w1 := ⟨_, rfl⟩
  have hB : Below w.heap.size w w1 := hw1 ▸ (Below.refl _ _).alloc (Nat.le_refl _) _
  have hg : w1.heap[w.heap.size]? = some (.cells #[.bool tv, .int .u64 (thi : Int), .int .u64 (tlo : Int)] 26 (0, 0)) := hw1 ▸ blk_new _ _ _
  replace hx := hx.on hB
  have hys : y.size = 23 := hy ▸ rfl
  have hyo : y.all (·.oneCell') = true := hy ▸ pkG_one _ _ _ _ _ _ _ _ _ _ _ _ _ _ _ _ _ _ _ _ _ _ _
  replace hP := hide hP
  replace hx := hide hx
  replace hys := hide hys
  replace hyo := hide hyo
  replace hy := hide hy
  replace hbad := hide hbad
  replace hs := hide hs
  replace hB := hide hB
  replace hg := hide hg
  go_enter Try.func11, Try.ntmps11
  go_upto_region 1 with fail
  apply wp_region_lit
  clear hw1
  iterate 1 (refine wpList_plain rfl fun K hK => ?_; go_simp; refine hK _ _ ?_; clear hK K)
  refine wpList_plain rfl fun K hK => ?_
  go_simp
  refine (hP.out _ c _ hx.out hnc hcm).mono ?_
  rintro e w2 hE
  obtain ⟨rfl, hb2⟩ := hE
  rw [if_pos rfl]
  replace hB := hide (hB.out.trans (hb2.mono hB.out.size))
  replace hg := hide (blk_on hb2 hg.out)
  clear hb2
  go_simp
  refine hK _ _ ?_
  clear hK K
  iterate 3 (refine wpList_plain rfl fun K hK => ?_; go_simp; refine hK _ _ ?_; clear hK K)
  refine wpl_new rfl rfl 34 _ (alloc_pk _ rfl) 10 rfl (.tmp 22) rfl _ (fun _ => rfl) (fun _ => rfl) (by rw [pkZ_size]; exact hys.out) (by rw [size_pk, hys.out]) hyo.out ?_
  intro w3 hg3 hb3 hz3
  replace hB := hide (hB.out.trans (hb3.mono hB.out.size))
  replace hg := hide (blk_on hb3 hg.out)
  clear hb3
  iterate 1 (refine wpList_plain rfl fun K hK => ?_; go_simp; refine hK _ _ ?_; clear hK K)
  refine wpList_nil ?_
  have hgy := hg3
  rw [← hy.out] at hgy
  unfold pkG at hgy
  have hcy := blk_cell hgy
  have hca := blk_cell hg.out
  clear hgy hg3
  go_upto_region 4 with fail
  go_cut [28] (fun bv wx => bv = .bool false ∧ w3 = wx)
  case first =>
    rcases hs.out with rfl | rfl
    · go_wp2_with fail
      go_meet
      refine ⟨?_, rfl⟩
      congr 1
      simp only [Bool.or_eq_false_iff, decide_eq_false_iff_not]
      omega
    · go_wp2_with fail
      go_meet
      refine ⟨?_, rfl⟩
      congr 1
      simp only [Bool.or_eq_false_iff, decide_eq_false_iff_not]
      omega
  case rest =>
  obtain ⟨rfl, rfl⟩ := hcut
  by_cases hv : tv = v6
  · have hok : Four.okA tv (thi : Int) (tlo : Int) = false := by
      rcases hbad.out with h | h
      · exact absurd hv h
      · exact h
    subst hv
    have hne : (tv != tv) = false := by simp
    replace hok := hide hok
    go_upto_region 6 with fail
    go_wp2_with fail
    clear hcy hca
    refine (Four.addr_right tv thi tlo false _ hok.out).mono ?_
    rintro e w5 ⟨rfl, hb5⟩
    replace hB := hide (hB.out.trans (hb5.mono hB.out.size))
    replace hg := hide (blk_on hb5 hg.out)
    clear hb5
    have hfin := InEnd.no U (show 18 ≠ 0 by omega) hB.out
    replace hfin := hide hfin
    go_wp2_with fail
    go_ret2
    exact hfin.out
  · have hne : (tv != v6) = true := by rw [bne_iff_ne]; exact hv
    have hfin := InEnd.no U (show 18 ≠ 0 by omega) hB.out
    replace hfin := hide hfin
    replace hv : ¬ tv = v6 := hv
    go_wp2_with fail
    go_ret2
    exact hfin.out
end Nat15
end Go.Proofs.Ytfmmmjaficbchaa
/- nat.Whole by contract. Conditions: what pkt.Parse makes of the bytes is known. -/
namespace Go.Proofs.Ytfmmmjaficbchaa
open Go.RowKit Go.ChangeShapes Go.WideShapes Go.ChangeAt Go.Deep
namespace Nat15
open Pkt (InEnd End2 pkZ IsG pkG alloc_pk size_pk pkZ_size pkZ_one PIs pkG_one wrapB dgU sgU dgmK tuA tuA_one tuZ alloc_tu made_two)
theorem two_alloc (w : World) (tv : Bool) (thi tlo : Int) : ∃ w1, (w.alloc (.cells #[.bool tv, .int .u64 thi, .int .u64 tlo] 26)).alloc (.cells #[.int .i64 0, .bool false, .int .u64 0, .int .u64 0, .bool false, .int .u64 0, .int .u64 0, .int .i64 0, .int .i64 0] 32) = w1 ∧ Below w.heap.size w w1 ∧ w1.heap[w.heap.size]? = some (.cells #[.bool tv, .int .u64 thi, .int .u64 tlo] 26 (0, 0)) ∧ w1.heap[w.heap.size + 1]? = some (.cells #[.int .i64 0, .bool false, .int .u64 0, .int .u64 0, .bool false, .int .u64 0, .int .u64 0, .int .i64 0, .int .i64 0] 32 (0, 0)) ∧ w.heap.size + 2 ≤ w1.heap.size := made_two w _ _ _ _
set_option maxRecDepth 20000 in
set_option maxHeartbeats 8000000 in
theorem whole_bad (n c K : Nat) (xs : List UInt8) (y : Array Value) (hK0 : K ≠ 0) (s : Int) (tv : Bool) (thi tlo : Int) (port : Int) (A : Option Addr) (w : World) (hx : IsB w w.heap.size A n xs) (hnc : n ≤ c) (hcm : c ≤ maxLen) (hP : PIs n xs K y) :
    Calls Try.prog 17 #[.slice A n c, .int .i64 s, .agg #[.bool tv, .int .u64 thi, .int .u64 tlo], .int .i64 port] w fun en w' => en = .returned (.tuple #[.agg (tuA 0 false 0 0 false 0 0 0 0), .int .i64 (K : Int)]) ∧ Below w.heap.size w w' := by
  obtain ⟨w1, hw1, hB, hg, hg8, hz1⟩ := two_alloc w tv thi tlo
  have t1 : ((K : Int) != 0) = true := by rw [bne_iff_ne]; omega
  replace hx := hx.on hB
  have hzo : pkZ.all (·.oneCell') = true := pkZ_one
  have hzs : pkZ.size = 23 := pkZ_size
  clear hg
  replace hP := hide hP
  replace hx := hide hx
  replace hzo := hide hzo
  replace hzs := hide hzs
  replace hB := hide hB
  replace hg8 := hide hg8
  go_enter Try.func17, Try.ntmps17
  go_upto_region 1 with fail
  apply wp_region_lit
  clear hw1
  iterate 1 (refine wpList_plain rfl fun K hK => ?_; go_simp; refine hK _ _ ?_; clear hK K)
  refine wpList_plain rfl fun K hK => ?_
  go_simp
  refine (hP.out _ c _ hx.out hnc hcm).mono ?_
  rintro e w2 hE
  obtain ⟨rfl, hb2⟩ := hE
  rw [if_neg hK0]
  obtain ⟨z, hz⟩ : ∃ z, pkZ = z := ⟨_, rfl⟩
  rw [hz] at hzo hzs ⊢
  replace hB := hide (hB.out.trans (hb2.mono hB.out.size))
  replace hg8 := hide (blk_on hb2 hg8.out)
  clear hb2
  replace hz := hide hz
  go_simp
  refine hK _ _ ?_
  clear hK K
  iterate 3 (refine wpList_plain rfl fun K hK => ?_; go_simp; refine hK _ _ ?_; clear hK K)
  refine wpl_new rfl rfl 34 _ (alloc_pk _ rfl) 10 rfl (.tmp 16) rfl _ (fun _ => rfl) (fun _ => rfl) (by rw [pkZ_size]; exact hzs.out) (by rw [size_pk, hzs.out]) hzo.out ?_
  intro w3 hg3 hb3 hz3
  replace hB := hide (hB.out.trans (hb3.mono hB.out.size))
  replace hg8 := hide (blk_on hb3 hg8.out)
  clear hb3
  iterate 1 (refine wpList_plain rfl fun K hK => ?_; go_simp; refine hK _ _ ?_; clear hK K)
  refine wpList_nil ?_
  clear hg3
  go_upto_region 3 with fail
  apply wp_region_lit
  iterate 2 (refine wpList_plain rfl fun K hK => ?_; go_simp; refine hK _ _ ?_; clear hK K)
  refine wpl_st rfl 32 (.tmp 8) (.tmp 20) rfl (w.heap.size + 1) 0 rfl #[.int .i64 0, .bool false, .int .u64 0, .int .u64 0, .bool false, .int .u64 0, .int .u64 0, .int .i64 0, .int .i64 0] rfl hg8.out (show 0 + 9 ≤ 9 by omega) (by kernel_rfl) (tuA_one _ _ _ _ _ _ _ _ _) fun w7 hg7 g7 => ?_
  rw [putA_whole _ _ (by rfl)] at hg7
  have hb7 : Below w.heap.size w w7 := hB.out.trans (below_grown g7 hB.out.size (by omega))
  have hld : (loadVar 32 ⟨w.heap.size + 1, 0, none⟩).run Try.prog w7 = .ok (.agg (tuA 0 false 0 0 false 0 0 0 0)) w7 := by
    simpa using run_loadVar_mid w7 (w.heap.size + 1) 0 32 (tuA 0 false 0 0 false 0 0 0 0).toList _ (blk_range hg7) Try.underlying32 rfl (by kernel_rfl)
  clear hg7 g7
  replace hld := hide hld
  replace hb7 := hide hb7
  go_wp2_with fail
  exact bodyPost_ret (v := .tuple #[.agg (tuA 0 false 0 0 false 0 0 0 0), .int .i64 (K : Int)]) (by simp [results, Try.results17, asAddr, hld.out, Result.andThen]) rfl ⟨by rfl, hb7.out⟩
set_option maxRecDepth 20000 in
set_option maxHeartbeats 8000000 in
theorem whole_ok (n c : Nat) (xs : List UInt8) (y : Array Value) (v6 : Bool) (pr : Int) (sv : Bool) (shi slo : Int) (dv : Bool) (dhi dlo sp dp ttl : Int) (fl : Int) (er : Bool) (apr : Int) (asv : Bool) (ashi aslo : Int) (adv : Bool) (adhi adlo asp adp sz : Int)
    (hy : pkG v6 pr sv shi slo dv dhi dlo sp dp ttl fl er apr asv ashi aslo adv adhi adlo asp adp sz = y) (s : Int) (tv : Bool) (thi tlo : Int) (port : Int) (A : Option Addr) (w : World) (hx : IsB w w.heap.size A n xs) (hnc : n ≤ c) (hcm : c ≤ maxLen) (hP : PIs n xs 0 y) :
    Calls Try.prog 17 #[.slice A n c, .int .i64 s, .agg #[.bool tv, .int .u64 thi, .int .u64 tlo], .int .i64 port] w fun en w' => en = .returned (.tuple #[.agg (if s = 0 then tuA pr tv thi tlo dv dhi dlo port dp else tuA pr sv shi slo tv thi tlo sp port), .int .i64 0]) ∧ Below w.heap.size w w' := by
  obtain ⟨w1, hw1, hB, hg, hg8, hz1⟩ := two_alloc w tv thi tlo
  replace hx := hx.on hB
  have hys : y.size = 23 := hy ▸ rfl
  have hyo : y.all (·.oneCell') = true := hy ▸ pkG_one _ _ _ _ _ _ _ _ _ _ _ _ _ _ _ _ _ _ _ _ _ _ _
  replace hP := hide hP
  replace hx := hide hx
  replace hys := hide hys
  replace hyo := hide hyo
  replace hy := hide hy
  replace hB := hide hB
  replace hg := hide hg
  replace hg8 := hide hg8
  go_enter Try.func17, Try.ntmps17
  go_upto_region 1 with fail
  apply wp_region_lit
  clear hw1
  iterate 1 (refine wpList_plain rfl fun K hK => ?_; go_simp; refine hK _ _ ?_; clear hK K)
  refine wpList_plain rfl fun K hK => ?_
  go_simp
  refine (hP.out _ c _ hx.out hnc hcm).mono ?_
  rintro e w2 hE
  obtain ⟨rfl, hb2⟩ := hE
  rw [if_pos rfl]
  replace hB := hide (hB.out.trans (hb2.mono hB.out.size))
  replace hg := hide (blk_on hb2 hg.out)
  replace hg8 := hide (blk_on hb2 hg8.out)
  clear hb2
  go_simp
  refine hK _ _ ?_
  clear hK K
  iterate 3 (refine wpList_plain rfl fun K hK => ?_; go_simp; refine hK _ _ ?_; clear hK K)
  refine wpl_new rfl rfl 34 _ (alloc_pk _ rfl) 10 rfl (.tmp 16) rfl _ (fun _ => rfl) (fun _ => rfl) (by rw [pkZ_size]; exact hys.out) (by rw [size_pk, hys.out]) hyo.out ?_
  intro wp hg3 hbp hzp
  replace hB := hide (hB.out.trans (hbp.mono hB.out.size))
  replace hg := hide (blk_on hbp hg.out)
  replace hg8 := hide (blk_on hbp hg8.out)
  clear hbp
  iterate 1 (refine wpList_plain rfl fun K hK => ?_; go_simp; refine hK _ _ ?_; clear hK K)
  refine wpList_nil ?_
  have hgy := hg3
  rw [← hy.out] at hgy
  unfold pkG at hgy
  have hcy := blk_cell hgy
  clear hgy hg3
  go_upto_region 4 with fail
  apply wp_region_lit
  iterate 2 (refine wpList_plain rfl fun K hK => ?_; go_simp; refine hK _ _ ?_; clear hK K)
  clear hcy
  refine wpl_new rfl rfl 32 _ (alloc_tu _ rfl) 12 rfl (.tmp 23) rfl #[.int .i64 pr, .bool sv, .int .u64 shi, .int .u64 slo, .bool dv, .int .u64 dhi, .int .u64 dlo, .int .i64 sp, .int .i64 dp] (fun _ => rfl) (fun _ => rfl) rfl (by kernel_rfl) (tuA_one _ _ _ _ _ _ _ _ _) ?_
  intro w4 hg12 hb4 hz4
  have z3 := hB.out.size
  have z83 : w.heap.size + 1 ≠ wp.heap.size := by have := blk_lt hg8.out; omega
  replace hB := hide (hB.out.trans (hb4.mono hB.out.size))
  replace hg := hide (blk_on hb4 hg.out)
  replace hg8 := hide (blk_on hb4 hg8.out)
  clear hb4
  refine wpList_nil ?_
  have hca := blk_cell hg.out
  replace hg12 := hide hg12
  go_upto_region 5 with fail
  by_cases h0 : s = 0
  · subst h0
    go_upto_region 6 with fail
    apply wp_region_lit
    iterate 3 (refine wpList_plain rfl fun K hK => ?_; go_simp; refine hK _ _ ?_; clear hK K)
    clear hca
    refine wpl_st rfl 26 (.tmp 28) (.tmp 26) rfl wp.heap.size 1 rfl #[.bool tv, .int .u64 thi, .int .u64 tlo] rfl hg12.out (show 1 + 3 ≤ 9 by omega) (by kernel_rfl) (ad_one _ _ _) fun w5 hg5 g5 => ?_
    rw [show putA #[.int .i64 pr, .bool sv, .int .u64 shi, .int .u64 slo, .bool dv, .int .u64 dhi, .int .u64 dlo, .int .i64 sp, .int .i64 dp] 1 (#[.bool tv, .int .u64 thi, .int .u64 tlo] : Array Value).toList = #[.int .i64 pr, .bool tv, .int .u64 thi, .int .u64 tlo, .bool dv, .int .u64 dhi, .int .u64 dlo, .int .i64 sp, .int .i64 dp] from rfl] at hg5
    have hb5 : Below w.heap.size w w5 := hB.out.trans (below_grown g5 hB.out.size z3)
    have hg85 := grown_other g5 (blk_lt hg8.out) z83 hg8.out
    have hc7 := blk_cell hg5 7
    have hf7 := blk_free hg5 7
    obtain ⟨w6, e6, hg6', g6⟩ := store_cell hg5 7 (.int .i64 port)
    rw [show ((#[.int .i64 pr, .bool tv, .int .u64 thi, .int .u64 tlo, .bool dv, .int .u64 dhi, .int .u64 dlo, .int .i64 sp, .int .i64 dp] : Array Value).setIfInBounds 7 (.int .i64 port)) = #[.int .i64 pr, .bool tv, .int .u64 thi, .int .u64 tlo, .bool dv, .int .u64 dhi, .int .u64 dlo, .int .i64 port, .int .i64 dp] from rfl] at hg6'
    have hb6 : Below w.heap.size w w6 := hb5.trans (below_grown g6 hb5.size z3)
    have hg86 := grown_other g6 (blk_lt hg85) z83 hg85
    clear g5 g6 hg5 hg85 hb5
    replace hg6' := hide hg6'
    replace hb6 := hide hb6
    replace hg86 := hide hg86
    go_upto_region 8 with fail
    clear e6 hc7 hf7
    apply wp_region_lit
    refine wpl_ld rfl 32 (.tmp 12) rfl wp.heap.size rfl #[.int .i64 pr, .bool tv, .int .u64 thi, .int .u64 tlo, .bool dv, .int .u64 dhi, .int .u64 dlo, .int .i64 port, .int .i64 dp] _ hg6'.out Try.underlying32 rfl (by kernel_rfl) ?_
    refine wpl_st rfl 32 (.tmp 8) (.tmp 34) rfl (w.heap.size + 1) 0 rfl #[.int .i64 pr, .bool tv, .int .u64 thi, .int .u64 tlo, .bool dv, .int .u64 dhi, .int .u64 dlo, .int .i64 port, .int .i64 dp] rfl hg86.out (show 0 + 9 ≤ 9 by omega) (by kernel_rfl) (tuA_one _ _ _ _ _ _ _ _ _) fun w7 hg7 g7 => ?_
    rw [putA_whole _ _ (by rfl)] at hg7
    have hb7 : Below w.heap.size w w7 := hb6.out.trans (below_grown g7 hb6.out.size (by omega))
    have hld : (loadVar 32 ⟨w.heap.size + 1, 0, none⟩).run Try.prog w7 = .ok (.agg (tuA pr tv thi tlo dv dhi dlo port dp)) w7 := by
      simpa using run_loadVar_mid w7 (w.heap.size + 1) 0 32 (tuA pr tv thi tlo dv dhi dlo port dp).toList _ (blk_range hg7) Try.underlying32 rfl (by kernel_rfl)
    clear hg7 g7
    replace hld := hide hld
    replace hb7 := hide hb7
    go_wp2_with fail
    exact bodyPost_ret (v := .tuple #[.agg (tuA pr tv thi tlo dv dhi dlo port dp), .int .i64 0]) (by simp [results, Try.results17, asAddr, hld.out, Result.andThen]) rfl ⟨by first | rfl | (rw [if_pos rfl]; rfl) | (rw [if_neg h0]; rfl), hb7.out⟩
  · have h0b : (s == 0) = false := by rw [beq_eq_false_iff_ne]; exact h0
    go_upto_region 7 with fail
    apply wp_region_lit
    iterate 3 (refine wpList_plain rfl fun K hK => ?_; go_simp; refine hK _ _ ?_; clear hK K)
    clear hca
    refine wpl_st rfl 26 (.tmp 32) (.tmp 30) rfl wp.heap.size 4 rfl #[.bool tv, .int .u64 thi, .int .u64 tlo] rfl hg12.out (show 4 + 3 ≤ 9 by omega) (by kernel_rfl) (ad_one _ _ _) fun w5 hg5 g5 => ?_
    rw [show putA #[.int .i64 pr, .bool sv, .int .u64 shi, .int .u64 slo, .bool dv, .int .u64 dhi, .int .u64 dlo, .int .i64 sp, .int .i64 dp] 4 (#[.bool tv, .int .u64 thi, .int .u64 tlo] : Array Value).toList = #[.int .i64 pr, .bool sv, .int .u64 shi, .int .u64 slo, .bool tv, .int .u64 thi, .int .u64 tlo, .int .i64 sp, .int .i64 dp] from rfl] at hg5
    have hb5 : Below w.heap.size w w5 := hB.out.trans (below_grown g5 hB.out.size z3)
    have hg85 := grown_other g5 (blk_lt hg8.out) z83 hg8.out
    have hc7 := blk_cell hg5 8
    have hf7 := blk_free hg5 8
    obtain ⟨w6, e6, hg6', g6⟩ := store_cell hg5 8 (.int .i64 port)
    rw [show ((#[.int .i64 pr, .bool sv, .int .u64 shi, .int .u64 slo, .bool tv, .int .u64 thi, .int .u64 tlo, .int .i64 sp, .int .i64 dp] : Array Value).setIfInBounds 8 (.int .i64 port)) = #[.int .i64 pr, .bool sv, .int .u64 shi, .int .u64 slo, .bool tv, .int .u64 thi, .int .u64 tlo, .int .i64 sp, .int .i64 port] from rfl] at hg6'
    have hb6 : Below w.heap.size w w6 := hb5.trans (below_grown g6 hb5.size z3)
    have hg86 := grown_other g6 (blk_lt hg85) z83 hg85
    clear g5 g6 hg5 hg85 hb5
    replace hg6' := hide hg6'
    replace hb6 := hide hb6
    replace hg86 := hide hg86
    go_upto_region 8 with fail
    clear e6 hc7 hf7
    apply wp_region_lit
    refine wpl_ld rfl 32 (.tmp 12) rfl wp.heap.size rfl #[.int .i64 pr, .bool sv, .int .u64 shi, .int .u64 slo, .bool tv, .int .u64 thi, .int .u64 tlo, .int .i64 sp, .int .i64 port] _ hg6'.out Try.underlying32 rfl (by kernel_rfl) ?_
    refine wpl_st rfl 32 (.tmp 8) (.tmp 34) rfl (w.heap.size + 1) 0 rfl #[.int .i64 pr, .bool sv, .int .u64 shi, .int .u64 slo, .bool tv, .int .u64 thi, .int .u64 tlo, .int .i64 sp, .int .i64 port] rfl hg86.out (show 0 + 9 ≤ 9 by omega) (by kernel_rfl) (tuA_one _ _ _ _ _ _ _ _ _) fun w7 hg7 g7 => ?_
    rw [putA_whole _ _ (by rfl)] at hg7
    have hb7 : Below w.heap.size w w7 := hb6.out.trans (below_grown g7 hb6.out.size (by omega))
    have hld : (loadVar 32 ⟨w.heap.size + 1, 0, none⟩).run Try.prog w7 = .ok (.agg (tuA pr sv shi slo tv thi tlo sp port)) w7 := by
      simpa using run_loadVar_mid w7 (w.heap.size + 1) 0 32 (tuA pr sv shi slo tv thi tlo sp port).toList _ (blk_range hg7) Try.underlying32 rfl (by kernel_rfl)
    clear hg7 g7
    replace hld := hide hld
    replace hb7 := hide hb7
    go_wp2_with fail
    exact bodyPost_ret (v := .tuple #[.agg (tuA pr sv shi slo tv thi tlo sp port), .int .i64 0]) (by simp [results, Try.results17, asAddr, hld.out, Result.andThen]) rfl ⟨by first | rfl | (rw [if_pos rfl]; rfl) | (rw [if_neg h0]; rfl), hb7.out⟩
end Nat15
end Go.Proofs.Ytfmmmjaficbchaa
/- The statement NatFlows, walked. Conditions: a slice of bytes that reads as a list. -/
namespace Go.Proofs.Ytfmmmjaficbchaa
open Go.RowKit Go.ChangeShapes Go.WideShapes Go.ChangeAt Go.Deep
namespace Nat15
open Pkt (InEnd End2 pkZ IsG pkG alloc_pk size_pk pkZ_size pkZ_one PIs pkG_one tuA tuA_one tuZ alloc_tu eql_tu)
theorem size_tu : (Try.prog.info? 32).map (·.size) = some 9 := by kernel_rfl
set_option maxRecDepth 20000 in
set_option maxHeartbeats 8000000 in
theorem flows_bad (n0 n c K : Nat) (xs : List UInt8) (y : Array Value) (hK0 : K ≠ 0) (s : Int) (tv : Bool) (thi tlo : Int) (port : Int) (A : Option Addr) (w : World) (hx : IsB w w.heap.size A n xs) (hn : min n0 500 = n) (hnc : n0 ≤ c) (hcm : c ≤ maxLen) (hP : PIs n xs K y) :
    Calls Try.prog 5 #[.slice A n0 c, .int .i64 s, .agg #[.bool tv, .int .u64 thi, .int .u64 tlo], .int .i64 port] w fun e w' => e = .returned (.bool true) ∧ Below w.heap.size w w' := by
  have hn0 : n0 ≤ maxLen := by omega
  have hnc1 : n ≤ c := by omega
  obtain ⟨w1, hw1⟩ : ∃ w1, w.alloc (.cells #[.bool tv, .int .u64 thi, .int .u64 tlo] 26) = w1 := ⟨_, rfl⟩
  have hB : Below w.heap.size w w1 := hw1 ▸ (Below.refl _ _).alloc (Nat.le_refl _) _
  have hg : w1.heap[w.heap.size]? = some (.cells #[.bool tv, .int .u64 thi, .int .u64 tlo] 26 (0, 0)) := hw1 ▸ blk_new _ _ _
  have t1 : ((K : Int) != 0) = true := by rw [bne_iff_ne]; omega
  replace hx := hx.on hB
  have hca := blk_cell hg
  have hzo : pkZ.all (·.oneCell') = true := pkZ_one
  have hzs : pkZ.size = 23 := pkZ_size
  obtain ⟨z, hz⟩ : ∃ z, pkZ = z := ⟨_, rfl⟩
  obtain ⟨t, ht⟩ : ∃ t, tuA 0 false 0 0 false 0 0 0 0 = t := ⟨_, rfl⟩
  have hts : t.size = 9 := ht ▸ rfl
  have hto : t.all (·.oneCell') = true := ht ▸ tuA_one _ _ _ _ _ _ _ _ _
  have hW := fun w hx => whole_bad n c K xs y hK0 s tv thi tlo port A w hx hnc1 hcm hP
  rw [ht] at hW
  rw [hz] at hzo hzs
  replace hP := hide hP
  replace hx := hide hx
  replace hzo := hide hzo
  replace hzs := hide hzs
  replace hz := hide hz
  replace ht := hide ht
  replace hts := hide hts
  replace hto := hide hto
  replace hW := hide hW
  replace hn := hide hn
  replace hB := hide hB
  replace hx := hide hx
  go_enter Try.func5, Try.ntmps5
  go_wp2_with fail
  clear hw1
  refine (Tun.pcut_as _ n0 c n _ hn0 hnc hn.out).mono ?_
  rintro e w' ⟨rfl, rfl⟩
  go_upto_region 2 with fail
  apply wp_region_lit
  iterate 4 (refine wpList_plain rfl fun K hK => ?_; go_simp; refine hK _ _ ?_; clear hK K)
  clear hca hg
  refine wpList_plain rfl fun K hK => ?_
  go_simp
  refine (hW.out _ hx.out).mono ?_
  rintro e w2 hE
  obtain ⟨rfl, hb2⟩ := hE
  replace hB := hide (hB.out.trans (hb2.mono hB.out.size))
  replace hx := hide (hx.out.on hb2)
  clear hb2
  go_simp
  refine hK _ _ ?_
  clear hK K
  iterate 3 (refine wpList_plain rfl fun K hK => ?_; go_simp; refine hK _ _ ?_; clear hK K)
  refine wpl_new rfl rfl 32 _ (alloc_tu _ rfl) 9 rfl (.tmp 21) rfl _ (fun _ => rfl) (fun _ => rfl) (by rw [show tuZ.size = 9 from rfl]; exact hts.out) (by rw [size_tu, hts.out]) hto.out ?_
  intro w3 hg3 hb3 hz3
  replace hB := hide (hB.out.trans (hb3.mono hB.out.size))
  replace hx := hide (hx.out.on hb3)
  clear hb3
  replace hg3 := hide hg3
  iterate 1 (refine wpList_plain rfl fun K hK => ?_; go_simp; refine hK _ _ ?_; clear hK K)
  refine wpList_nil ?_
  go_upto_region 3 with fail
  apply wp_region_lit
  iterate 1 (refine wpList_plain rfl fun K hK => ?_; go_simp; refine hK _ _ ?_; clear hK K)
  refine wpList_plain rfl fun K hK => ?_
  go_simp
  refine (hP.out _ c _ hx.out hnc1 hcm).mono ?_
  rintro e w4 hE
  obtain ⟨rfl, hb4⟩ := hE
  rw [if_neg hK0, hz.out]
  replace hB := hide (hB.out.trans (hb4.mono hB.out.size))
  replace hx := hide (hx.out.on hb4)
  replace hg3 := hide (blk_on hb4 hg3.out)
  clear hb4
  go_simp
  refine hK _ _ ?_
  clear hK K
  iterate 3 (refine wpList_plain rfl fun K hK => ?_; go_simp; refine hK _ _ ?_; clear hK K)
  refine wpl_new rfl rfl 34 _ (alloc_pk _ rfl) 11 rfl (.tmp 26) rfl _ (fun _ => rfl) (fun _ => rfl) (by rw [pkZ_size]; exact hzs.out) (by rw [size_pk, hzs.out]) hzo.out ?_
  intro w5 hg5 hb5 hz5
  replace hB := hide (hB.out.trans (hb5.mono hB.out.size))
  replace hx := hide (hx.out.on hb5)
  replace hg3 := hide (blk_on hb5 hg3.out)
  clear hb5
  clear hg5
  iterate 1 (refine wpList_plain rfl fun K hK => ?_; go_simp; refine hK _ _ ?_; clear hK K)
  refine wpList_nil ?_
  go_upto_region 5 with fail
  apply wp_region_lit
  refine wpl_val (.agg t) rfl (run_ldw w5 _ 32 (.tmp 9) rfl w2.heap.size rfl t _ hg3.out Try.underlying32 rfl (by rw [size_tu, hts.out])) ?_
  dsimp only [Act.put]
  iterate 1 (refine wpList_plain rfl fun K hK => ?_; go_simp; refine hK _ _ ?_; clear hK K)
  refine wpl_val (.bool true) rfl (eql_tu 0 false 0 0 false 0 0 0 0 _ (.tmp 30) (.tmp 31) rfl (by rw [ht.out]; rfl) (by rfl) w5) ?_
  dsimp only [Act.put]
  go_wp2_with fail
  refine (awake_any _).mono ?_
  rintro e w10 ⟨rfl, hb10⟩
  replace hB := hide (hB.out.trans (hb10.mono hB.out.size))
  replace hx := hide (hx.out.on hb10)
  replace hg3 := hide (blk_on hb10 hg3.out)
  clear hb10
  go_wp2_with fail
  go_ret
  exact ⟨rfl, hB.out⟩
set_option maxRecDepth 20000 in
set_option maxHeartbeats 8000000 in
theorem flows_ok (n0 n c : Nat) (xs : List UInt8) (y : Array Value) (v6 : Bool) (pr : Int) (sv : Bool) (shi slo : Int) (dv : Bool) (dhi dlo sp dp ttl : Int) (fl : Int) (er : Bool) (apr : Int) (asv : Bool) (ashi aslo : Int) (adv : Bool) (adhi adlo asp adp sz : Int)
    (hy : pkG v6 pr sv shi slo dv dhi dlo sp dp ttl fl er apr asv ashi aslo adv adhi adlo asp adp sz = y) (s : Int) (tv : Bool) (thi tlo : Int) (port : Int) (A : Option Addr) (w : World) (hx : IsB w w.heap.size A n xs) (hn : min n0 500 = n) (hnc : n0 ≤ c) (hcm : c ≤ maxLen) (hP : PIs n xs 0 y) :
    Calls Try.prog 5 #[.slice A n0 c, .int .i64 s, .agg #[.bool tv, .int .u64 thi, .int .u64 tlo], .int .i64 port] w fun e w' => e = .returned (.bool true) ∧ Below w.heap.size w w' := by
  have hn0 : n0 ≤ maxLen := by omega
  have hnc1 : n ≤ c := by omega
  obtain ⟨w1, hw1⟩ : ∃ w1, w.alloc (.cells #[.bool tv, .int .u64 thi, .int .u64 tlo] 26) = w1 := ⟨_, rfl⟩
  have hB : Below w.heap.size w w1 := hw1 ▸ (Below.refl _ _).alloc (Nat.le_refl _) _
  have hg : w1.heap[w.heap.size]? = some (.cells #[.bool tv, .int .u64 thi, .int .u64 tlo] 26 (0, 0)) := hw1 ▸ blk_new _ _ _
  replace hx := hx.on hB
  have hca := blk_cell hg
  have hys : y.size = 23 := hy ▸ rfl
  have hyo : y.all (·.oneCell') = true := hy ▸ pkG_one _ _ _ _ _ _ _ _ _ _ _ _ _ _ _ _ _ _ _ _ _ _ _
  have hW := fun w hx => whole_ok n c xs y v6 pr sv shi slo dv dhi dlo sp dp ttl fl er apr asv ashi aslo adv adhi adlo asp adp sz hy s tv thi tlo port A w hx hnc1 hcm hP
  have hTu := fun w => turned_any pr sv shi slo dv dhi dlo sp dp s tv thi tlo port w
  obtain ⟨qs, q1, q2, qd, q3, q4, q5, q6, hq⟩ : ∃ (qs : Bool) (q1 q2 : Int) (qd : Bool) (q3 q4 q5 q6 : Int), (if s = 0 then tuA pr tv thi tlo dv dhi dlo port dp else tuA pr sv shi slo tv thi tlo sp port) = tuA pr qs q1 q2 qd q3 q4 q5 q6 := by
    by_cases h : s = 0
    · exact ⟨_, _, _, _, _, _, _, _, by rw [if_pos h]⟩
    · exact ⟨_, _, _, _, _, _, _, _, by rw [if_neg h]⟩
  rw [hq] at hW
  simp only [hq] at hTu
  obtain ⟨t, ht⟩ : ∃ t, tuA pr qs q1 q2 qd q3 q4 q5 q6 = t := ⟨_, rfl⟩
  have hts : t.size = 9 := ht ▸ rfl
  have hto : t.all (·.oneCell') = true := ht ▸ tuA_one _ _ _ _ _ _ _ _ _
  rw [ht] at hW
  clear hq
  replace hP := hide hP
  replace hx := hide hx
  replace hy := hide hy
  replace hys := hide hys
  replace hyo := hide hyo
  replace ht := hide ht
  replace hts := hide hts
  replace hto := hide hto
  replace hW := hide hW
  replace hn := hide hn
  replace hTu := hide hTu
  replace hB := hide hB
  replace hx := hide hx
  replace hg := hide hg
  go_enter Try.func5, Try.ntmps5
  go_wp2_with fail
  clear hw1
  refine (Tun.pcut_as _ n0 c n _ hn0 hnc hn.out).mono ?_
  rintro e w' ⟨rfl, rfl⟩
  go_upto_region 2 with fail
  apply wp_region_lit
  iterate 4 (refine wpList_plain rfl fun K hK => ?_; go_simp; refine hK _ _ ?_; clear hK K)
  clear hca
  refine wpList_plain rfl fun K hK => ?_
  go_simp
  refine (hW.out _ hx.out).mono ?_
  rintro e w2 hE
  obtain ⟨rfl, hb2⟩ := hE
  replace hB := hide (hB.out.trans (hb2.mono hB.out.size))
  replace hx := hide (hx.out.on hb2)
  replace hg := hide (blk_on hb2 hg.out)
  clear hb2
  go_simp
  refine hK _ _ ?_
  clear hK K
  iterate 3 (refine wpList_plain rfl fun K hK => ?_; go_simp; refine hK _ _ ?_; clear hK K)
  refine wpl_new rfl rfl 32 _ (alloc_tu _ rfl) 9 rfl (.tmp 21) rfl _ (fun _ => rfl) (fun _ => rfl) (by rw [show tuZ.size = 9 from rfl]; exact hts.out) (by rw [size_tu, hts.out]) hto.out ?_
  intro w3 hg3 hb3 hz3
  replace hB := hide (hB.out.trans (hb3.mono hB.out.size))
  replace hx := hide (hx.out.on hb3)
  replace hg := hide (blk_on hb3 hg.out)
  clear hb3
  replace hg3 := hide hg3
  iterate 1 (refine wpList_plain rfl fun K hK => ?_; go_simp; refine hK _ _ ?_; clear hK K)
  refine wpList_nil ?_
  go_upto_region 3 with fail
  apply wp_region_lit
  iterate 1 (refine wpList_plain rfl fun K hK => ?_; go_simp; refine hK _ _ ?_; clear hK K)
  refine wpList_plain rfl fun K hK => ?_
  go_simp
  refine (hP.out _ c _ hx.out hnc1 hcm).mono ?_
  rintro e w4 hE
  obtain ⟨rfl, hb4⟩ := hE
  rw [if_pos rfl]
  replace hB := hide (hB.out.trans (hb4.mono hB.out.size))
  replace hx := hide (hx.out.on hb4)
  replace hg := hide (blk_on hb4 hg.out)
  replace hg3 := hide (blk_on hb4 hg3.out)
  clear hb4
  go_simp
  refine hK _ _ ?_
  clear hK K
  iterate 3 (refine wpList_plain rfl fun K hK => ?_; go_simp; refine hK _ _ ?_; clear hK K)
  refine wpl_new rfl rfl 34 _ (alloc_pk _ rfl) 11 rfl (.tmp 26) rfl _ (fun _ => rfl) (fun _ => rfl) (by rw [pkZ_size]; exact hys.out) (by rw [size_pk, hys.out]) hyo.out ?_
  intro w5 hg5 hb5 hz5
  replace hB := hide (hB.out.trans (hb5.mono hB.out.size))
  replace hx := hide (hx.out.on hb5)
  replace hg := hide (blk_on hb5 hg.out)
  replace hg3 := hide (blk_on hb5 hg3.out)
  clear hb5
  iterate 1 (refine wpList_plain rfl fun K hK => ?_; go_simp; refine hK _ _ ?_; clear hK K)
  refine wpList_nil ?_
  have hgy := hg5
  rw [← hy.out] at hgy
  unfold pkG at hgy
  have zy := blk_lt hgy
  have zg := blk_lt hg.out
  have z3 := blk_lt hg3.out
  have hcyL := fun (l : Later w5) (o : Nat) => blk_cell (blk_below l.hb zy hgy) o
  have hcaL := fun (l : Later w5) (o : Nat) => blk_cell (blk_below l.hb zg hg.out) o
  clear hgy hg5
  go_upto_region 6 with fail
  refine wp_region_L (by as_aux_lemma => kernel_rfl) ?_
  refine wpE_seg 0 16 (fuel := 0) (by as_aux_lemma => kernel_rfl) (fun d _ _ _ _ h => by cases d <;> exact h) (by as_aux_lemma => kernel_rfl) (by as_aux_lemma => kernel_rfl) ?_
  simp only [List.drop_zero, List.take_succ_cons, List.take_zero]
  refine wpQE_val (.agg t) rfl (fun l => run_ldw l.w _ 32 (.tmp 9) rfl w2.heap.size rfl t _ (blk_below l.hb z3 hg3.out) Try.underlying32 rfl (by rw [size_tu, hts.out])) ?_
  dsimp only [Act.put]
  iterate 5 (refine wpQE_step (fun K hK => ?_); go_simp; refine hK _ ?_; clear hK K)
  clear hcyL hcaL
  (refine wpQE_step (fun K hK => ?_); go_simp; apply Exists.intro; refine ⟨fun l => ?_, hK _ ?_⟩; (go_at_call 15; refine (hTu.out l.w).mono ?_; rintro e w' ⟨rfl, hb⟩; exact ⟨rfl, hb⟩); clear hK K)
  refine wpQE_val (.bool true) rfl (fun l => eql_tu pr qs q1 q2 qd q3 q4 q5 q6 _ (.tmp 41) (.tmp 47) rfl (by rw [ht.out]; rfl) (by rfl) l.w) ?_
  dsimp only [Act.put]
  iterate 5 (refine wpQE_step (fun K hK => ?_); go_simp; refine hK _ ?_; clear hK K)
  (refine wpQE_step (fun K hK => ?_); go_simp; apply Exists.intro; refine ⟨fun l => ?_, hK _ ?_⟩; (go_at_call 14; refine (awake_any l.w).mono ?_; rintro e w' ⟨rfl, hb⟩; exact ⟨rfl, hb⟩); clear hK K)
  iterate 2 (refine wpQE_step (fun K hK => ?_); go_simp; refine hK _ ?_; clear hK K)
  refine wpQE_nil ?_
  refine wpE_done (by as_aux_lemma => kernel_rfl) (fun w10 hb10 => ?_) 0
  replace hB := hide (hB.out.trans (hb10.mono hB.out.size))
  replace hx := hide (hx.out.on hb10)
  replace hg := hide (blk_on hb10 hg.out)
  replace hg3 := hide (blk_on hb10 hg3.out)
  clear hb10
  go_wp2_with fail
  go_ret
  exact ⟨by rfl, hB.out⟩
/-- The statement NatFlows of any bytes. -/
theorem flows_any (n0 n c : Nat) (xs : List UInt8) (s : Int) (tv : Bool) (thi tlo : Int) (port : Int) (A : Option Addr) (w : World) (hx : IsB w w.heap.size A n xs) (hn : min n0 500 = n) (hnc : n0 ≤ c) (hcm : c ≤ maxLen) :
    Calls Try.prog 5 #[.slice A n0 c, .int .i64 s, .agg #[.bool tv, .int .u64 thi, .int .u64 tlo], .int .i64 port] w fun e w' => e = .returned (.bool true) ∧ Below w.heap.size w w' := by
  rcases pkt_cases n xs hx.1 (by omega) with ⟨K, hK, hP⟩ | ⟨y, hP, _, _, _, _, _, _, _, _, _, _, _, _, _, _, _, _, _, _, _, _, _, _, _, rfl⟩ | ⟨al, e, udp, R, slo, dlo, sp, dp, ttl, fl, h⟩ | ⟨acc, e, udp, R, shi, slo, dhi, dlo, sp, dp, ttl, fl, h⟩
  · exact flows_bad n0 n c K xs _ hK s tv thi tlo port A w hx hn hnc hcm hP
  · exact flows_ok n0 n c xs _ _ _ _ _ _ _ _ _ _ _ _ _ _ _ _ _ _ _ _ _ _ _ _ rfl s tv thi tlo port A w hx hn hnc hcm hP
  · exact flows_ok n0 n c xs _ _ _ _ _ _ _ _ _ _ _ _ _ _ _ _ _ _ _ _ _ _ _ _ rfl s tv thi tlo port A w hx hn hnc hcm (h.pis (by omega))
  · exact flows_ok n0 n c xs _ _ _ _ _ _ _ _ _ _ _ _ _ _ _ _ _ _ _ _ _ _ _ _ rfl s tv thi tlo port A w hx hn hnc hcm (h.pis (by omega))
theorem flows_walk (A : Option Addr) (n0 c : Nat) (xs : List UInt8) (s : Int) (tv : Bool) (thi tlo : Int) (port : Int) (w : World) (hx : IsB w w.heap.size A n0 xs) (hnc : n0 ≤ c) (hcm : c ≤ maxLen) (_h1 : (Lit.int .i64 s).wf = true) (_h2 : (Lit.int .u64 thi).wf = true) (_h3 : (Lit.int .u64 tlo).wf = true) (_h4 : (Lit.int .i64 port).wf = true) :
    Calls Try.prog 5 #[.slice A n0 c, .int .i64 s, .agg #[.bool tv, .int .u64 thi, .int .u64 tlo], .int .i64 port] w fun e w' => e = .returned (.bool true) ∧ Below w.heap.size w w' :=
  flows_any n0 _ c _ s tv thi tlo port A w (hx.take (m := min n0 500) (by omega)) rfl hnc hcm
end Nat15
end Go.Proofs.Ytfmmmjaficbchaa
