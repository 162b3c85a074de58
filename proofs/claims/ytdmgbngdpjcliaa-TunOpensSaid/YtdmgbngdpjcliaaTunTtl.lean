/- The law's ttl of a packet, and wrapped packets parsed. Conditions: slices of bytes that read as lists, sizes below 2^39. -/
import Derived.Test.YtdmgbngdpjcliaaTunWrap
import Derived.Test.YtdmgbngdpjcliaaFourPutsPlain
namespace Go.Proofs.Ytdmgbngdpjcliaa
open Go.RowKit Go.ChangeShapes Go.WideShapes Go.ChangeAt Go.Deep
namespace Tun
theorem pcut_as (A : Option Addr) (n c n1 : Nat) (w : World) (hn : n ≤ maxLen) (hc : n ≤ c) (h1 : min n 500 = n1) :
    Calls Try.prog 19 #[.slice A n c] w fun e w' => e = .returned (.slice A n1 c) ∧ w = w' := by
  unfold maxLen at hn
  by_cases h : 500 < n
  · obtain rfl : n1 = 500 := by omega
    go_enter Try.func19, Try.ntmps19
    go_wp2
    go_ret
    exact ⟨rfl, rfl⟩
  · obtain rfl : n1 = n := by omega
    go_enter Try.func19, Try.ntmps19
    go_wp2
    go_ret
    exact ⟨rfl, rfl⟩
/-- A packet in one of version 4, parsed. -/
theorem four_wrapped (p slo dlo n : Nat) (xs ys : List UInt8) (hxl : xs.length = n) (hn : n ≤ 4096) (hp : p ≤ 255) (b6 : slo < 4294967296) (b8 : dlo < 4294967296) (hys : Four.hdB 0 0 16384 64 p slo dlo [] n ++ xs = ys) :
    FourIs (20 + n) ys 0 0 0 true false 0 64 p slo dlo 0 n xs ∧ ys.length = 20 + n ∧ (ys.getD 0 0).toNat / 16 = 4 := by
  obtain ⟨k1, k2, k3, k4, k5, k6, k7, k8, k9, k10, k11, k12, k13, k14, k15⟩ := Four.puts_get 0 0 16384 64 p slo dlo [] xs [] 0 n rfl hxl (by omega) (by omega) (by omega) (by omega) hp b6 b8 (by omega) (by omega) hn ys (by rw [List.append_nil]; exact hys)
  have hl : ys.length = 20 + n := by rw [← hys, List.length_append, Four.hdB_length, hxl]; rfl
  refine ⟨fun A c W hx hc _ => ?_, hl, k1⟩
  refine (Four.parse_ok A (20 + n) c ys W hx hc (by omega) (by omega) k1 20 k2 (by omega) (by omega) k4 (by omega) (by omega) k5).mono ?_
  rintro e w' ⟨A1, c1, A2, c2, rfl, _, _, _, i4, i5⟩
  obtain ⟨_, r1, r2, r3⟩ := i4.reads
  have hrest : (ys.take (beN ys 2 2)).drop 20 = xs := by rw [k3]; exact k14
  have hm : beN ys 2 2 - 20 = n := by omega
  rw [hrest, hm] at r3
  refine ⟨A1, c1, A2, c2, ?_, r3, by omega, r2, i5⟩
  unfold Four.rawV
  rw [k6, k7, k8, k9, k10, k11, k12, hm]
  rfl
/-- A packet in one of version 6, parsed. -/
theorem six_wrapped (p shi slo dhi dlo n : Nat) (xs ys : List UInt8) (hxl : xs.length = n) (hn : n ≤ 4096) (hp : p = 4 ∨ p = 41) (b5 : shi < 18446744073709551616) (b6 : slo < 18446744073709551616) (b7 : dhi < 18446744073709551616) (b8 : dlo < 18446744073709551616) (hys : Six.allB6 0 0 64 shi slo dhi dlo p [] xs = ys) :
    SixIs (40 + n) ys 0 0 0 64 true shi slo true dhi dlo [] p n xs ∧ ys.length = 40 + n ∧ (ys.getD 0 0).toNat / 16 = 6 := by
  have hr : Six.rightHB 0 0 64 true true p [] = true := by rcases hp with rfl | rfl <;> decide
  obtain ⟨g1, g2, _, _, g3, g4, g5, g6, g7, g8, g9⟩ := Six.puts_parse 0 0 64 shi slo dhi dlo p [] xs [] ys hr b5 b6 b7 b8 (by omega) (by rw [List.append_nil]; exact hys)
  have hl : ys.length = 40 + n := by rw [← hys, Six.allB6_length, hxl]; rfl
  rw [hl] at g1
  refine ⟨fun A c W hx hc hcm => ?_, hl, by rw [← hys, Six.allB6_head]; rfl⟩
  refine (Six.parse_any A (40 + n) c ys W hx hc hcm (by omega) 0 0 64 shi slo dhi dlo g3 g4 g5 g6 g7 g8 g9).mono ?_
  rw [g1, g2]
  rintro e w' ⟨_, h2, h3⟩
  obtain ⟨acc', next', rest', hR', X, xc, es, A2, c2, he, hes, hX, hr⟩ := h2 rfl
  cases hR'
  obtain ⟨hx1, hx2, hx3⟩ := hX.isX
  obtain ⟨_, r1, r2, r3⟩ := hr.reads
  subst hxl
  exact ⟨X, es.length, xc, A2, c2, es, he, hes, hx1, hx2, hx3, r3, r1, r2, h3⟩
set_option maxRecDepth 20000 in
set_option maxHeartbeats 4000000 in
theorem ttl_four (n : Nat) (xs : List UInt8) (K tos id : Nat) (df mf : Bool) (frag ttl proto slo dlo n1 m1 : Nat) (rest : List UInt8) (hS : FourIs n xs K tos id df mf frag ttl proto slo dlo n1 m1 rest) (h0 : 0 < n) (hv : (xs.getD 0 0).toNat / 16 = 4)
    (hn1 : n1 ≤ 549755813888) (hm1 : m1 ≤ 549755813888) (A : Option Addr) (c : Nat) (w : World) (hx : IsB w w.heap.size A n xs) (hnc : n ≤ c) (hcm : c ≤ maxLen) :
    Calls Try.prog 24 #[.slice A n c] w fun e w' => e = .returned (.tuple #[.int .i64 (ttl : Int), .int .i64 ((20 + n1 + m1 : Nat) : Int), .int .i64 (K : Int)]) ∧ Below w.heap.size w w' := by
  obtain ⟨T, hT⟩ : ∃ T, 20 + n1 + m1 = T := ⟨_, rfl⟩
  rw [hT]
  obtain ⟨b, off, v0, rfl, hbl, hv0, hv0l, hc0⟩ := hx.byte (i := 0) h0
  rw [Nat.add_zero] at hc0
  rw [hv0] at hv
  have t1 : (((v0 : Int) / 16) == 4) = true := by rw [beq_iff_eq]; omega
  have t2 : (0 : Int) < (n : Int) := by omega
  have t3 : ((n : Int) == 0) = false := by rw [beq_eq_false_iff_ne]; omega
  replace hx := hide hx
  replace hS := hide hS
  replace hv := hide hv
  replace hv0 := hide hv0
  go_enter Try.func24, Try.ntmps24
  go_wp2_with fail
  refine (hS.out _ c _ hx.out hnc hcm).mono ?_
  rintro e w2 ⟨A1, c1, A2, c2, rfl, hr, hm2, hc2, hb2⟩
  obtain ⟨wa, hwa⟩ : ∃ wa, w2.alloc (Four.hdC tos id df mf frag ttl proto false 0 slo false 0 dlo A1 n1 c1) = wa := ⟨_, rfl⟩
  have hba : Below w2.heap.size w2 wa := hwa ▸ (Below.refl _ _).alloc (Nat.le_refl _) _
  have hga := hwa ▸ blk_new w2 51 #[.int .i64 tos, .int .i64 id, .bool df, .bool mf, .int .i64 frag, .int .i64 ttl, .int .i64 proto, .bool false, .int .u64 0, .int .u64 slo, .bool false, .int .u64 0, .int .u64 dlo, .slice A1 n1 c1]
  have hla : w2.heap.size < wa.heap.size := by rw [← hwa]; simp
  unfold Four.hdC at hwa
  have hBa := hb2.trans (hba.mono hb2.size)
  have hcl := fun (l : Later wa) (o : Nat) => blk_cell (blk_below l.hb hla hga) o
  clear hr hba hb2 hc0
  replace hga := hide hga
  replace hBa := hide hBa
  go_upto_region 5 with fail
  clear hwa
  have s1 : 20 + (n1 : Int) + (m1 : Int) = (T : Int) := by omega
  have s2 : IntKind.i64.wrap (T : Int) = (T : Int) := wraps62 _ (by omega) (by omega)
  have s3 : IntKind.i64.wrap (20 + (n1 : Int) + (m1 : Int)) = (T : Int) := by rw [s1]; exact s2
  replace hT := hide hT
  refine wp_region_L (by as_aux_lemma => kernel_rfl) ?_
  refine wpE_seg 0 11 (fuel := 0) (by as_aux_lemma => kernel_rfl) (fun d _ _ _ _ h => by cases d <;> exact h) (by as_aux_lemma => kernel_rfl) (by as_aux_lemma => kernel_rfl) ?_
  simp only [List.drop_zero, List.take_succ_cons, List.take_zero]
  iterate 3 (refine wpQE_step (fun K hK => ?_); go_simp; refine hK _ ?_; clear hK K)
  (refine wpQE_step (fun K hK => ?_); go_simp; apply Exists.intro; refine ⟨fun l => ?_, hK _ ?_⟩; (go_at_call 50; refine (Four.len_any tos id df mf frag ttl proto false 0 slo false 0 dlo A1 n1 c1 _ (by omega)).mono ?_; rintro e w' ⟨rfl, hb⟩; exact ⟨rfl, hb⟩); clear hK K)
  iterate 7 (refine wpQE_step (fun K hK => ?_); go_simp; refine hK _ ?_; clear hK K)
  refine wpQE_nil ?_
  refine wpE_done (by as_aux_lemma => kernel_rfl) (fun w3 hb3 => ?_) 0
  have hB3 := hBa.out.trans (hb3.mono hBa.out.size)
  clear hcl hb3 s1 s2 s3
  replace hB3 := hide hB3
  go_wp2_with fail
  refine bodyPost_ret (v := .tuple #[.int .i64 (ttl : Int), .int .i64 (T : Int), .int .i64 (K : Int)]) (by simp [results, Try.results24, go_sem]) rfl ⟨rfl, hB3.out⟩
set_option maxRecDepth 20000 in
set_option maxHeartbeats 4000000 in
theorem ttl_six (n : Nat) (xs : List UInt8) (K : Nat) (cl la ho : Int) (b1 : Bool) (sh sl : Int) (b2 : Bool) (dh dl : Int) (acc : List (Int × List UInt8)) (nx m1 : Nat) (rest : List UInt8) (hS : SixIs n xs K cl la ho b1 sh sl b2 dh dl acc nx m1 rest) (h0 : 0 < n) (hv : (xs.getD 0 0).toNat / 16 = 6)
    (hal : acc.length ≤ 8) (hall : ∀ e ∈ acc, e.2.length ≤ 2047) (hm1 : m1 ≤ 549755813888) (A : Option Addr) (c : Nat) (w : World) (hx : IsB w w.heap.size A n xs) (hnc : n ≤ c) (hcm : c ≤ maxLen) :
    Calls Try.prog 24 #[.slice A n c] w fun e w' => e = .returned (.tuple #[.int .i64 ho, .int .i64 ((40 + Six.sumP acc + m1 : Nat) : Int), .int .i64 (K : Int)]) ∧ Below w.heap.size w w' := by
  obtain ⟨T, hT⟩ : ∃ T, 40 + Six.sumP acc + m1 = T := ⟨_, rfl⟩
  have hsl := Six.sumP_le acc hall
  rw [hT]
  obtain ⟨b, off, v0, rfl, hbl, hv0, hv0l, hc0⟩ := hx.byte (i := 0) h0
  rw [Nat.add_zero] at hc0
  rw [hv0] at hv
  have t1 : (((v0 : Int) / 16) == 4) = false := by rw [beq_eq_false_iff_ne]; omega
  have t4 : (((v0 : Int) / 16) == 6) = true := by rw [beq_iff_eq]; omega
  have t2 : (0 : Int) < (n : Int) := by omega
  have t3 : ((n : Int) == 0) = false := by rw [beq_eq_false_iff_ne]; omega
  replace hx := hide hx
  replace hS := hide hS
  replace hv := hide hv
  replace hv0 := hide hv0
  replace hall := hide hall
  go_enter Try.func24, Try.ntmps24
  go_wp2_with fail
  refine (hS.out _ c _ hx.out hnc hcm).mono ?_
  rintro e w2 ⟨X, m, xc, A2, c2, es, rfl, hpe, hX, hmx, hxm, hr, hm2, hc2, hb2⟩
  obtain ⟨wa, hwa⟩ : ∃ wa, w2.alloc (Six.hdC cl la ho b1 sh sl b2 dh dl X m xc nx) = wa := ⟨_, rfl⟩
  have hba : Below w2.heap.size w2 wa := hwa ▸ (Below.refl _ _).alloc (Nat.le_refl _) _
  have hga := hwa ▸ blk_new w2 29 #[.int .i64 cl, .int .i64 la, .int .i64 ho, .bool b1, .int .u64 sh, .int .u64 sl, .bool b2, .int .u64 dh, .int .u64 dl, .slice X m xc, .int .i64 nx]
  have hla : w2.heap.size < wa.heap.size := by rw [← hwa]; simp
  unfold Six.hdC at hwa
  have hBa := hb2.trans (hba.mono hb2.size)
  have hXa := hX.on hba
  have hcl := fun (l : Later wa) (o : Nat) => blk_cell (blk_below l.hb hla hga) o
  have hm8 : m ≤ 8 := by rw [← hX.1, ← Six.pes_length, hpe]; exact hal
  have hes : ∀ e ∈ es, e.xs.length ≤ 2047 := fun e he => hall.out (Six.Ext.pe e) (hpe ▸ (List.mem_map_of_mem he : Six.Ext.pe e ∈ Six.pes es))
  obtain ⟨T0, hT0⟩ : ∃ T0, 40 + Six.sumL es = T0 := ⟨_, rfl⟩
  have hT00 : T0 = 40 + Six.sumP acc := by rw [← hT0, Six.sumL_pes, hpe]
  clear hr hba hb2 hc0
  have s1 : (T0 : Int) + (m1 : Int) = (T : Int) := by omega
  have s2 : IntKind.i64.wrap (T : Int) = (T : Int) := wraps62 _ (by omega) (by omega)
  have s3 : IntKind.i64.wrap ((T0 : Int) + (m1 : Int)) = (T : Int) := by rw [s1]; exact s2
  have s4 : T0 ≤ 16424 := by omega
  replace hga := hide hga
  replace hBa := hide hBa
  replace hXa := hide hXa
  replace hpe := hide hpe
  replace hT0 := hide hT0
  replace hT00 := hide hT00
  replace hT := hide hT
  replace hsl := hide hsl
  replace hes := hide hes
  go_upto_region 8 with fail
  clear hwa
  refine wp_region_L (by as_aux_lemma => kernel_rfl) ?_
  refine wpE_seg 0 11 (fuel := 0) (by as_aux_lemma => kernel_rfl) (fun d _ _ _ _ h => by cases d <;> exact h) (by as_aux_lemma => kernel_rfl) (by as_aux_lemma => kernel_rfl) ?_
  simp only [List.drop_zero, List.take_succ_cons, List.take_zero]
  iterate 3 (refine wpQE_step (fun K hK => ?_); go_simp; refine hK _ ?_; clear hK K)
  (refine wpQE_step (fun K hK => ?_); go_simp; apply Exists.intro; refine ⟨fun l => ?_, hK _ ?_⟩; (go_at_call 51; refine (Six.len_any cl la ho b1 sh sl b2 dh dl X m xc nx es _ (hXa.out.later l) hm8 hes.out T0 hT0.out).mono ?_; rintro e w' ⟨rfl, hb⟩; exact ⟨rfl, hb⟩); clear hK K)
  iterate 7 (refine wpQE_step (fun K hK => ?_); go_simp; refine hK _ ?_; clear hK K)
  refine wpQE_nil ?_
  refine wpE_done (by as_aux_lemma => kernel_rfl) (fun w3 hb3 => ?_) 0
  have hB3 := hBa.out.trans (hb3.mono hBa.out.size)
  clear hcl hb3 s1 s2 s3
  replace hB3 := hide hB3
  go_wp2_with fail
  refine bodyPost_ret (v := .tuple #[.int .i64 ho, .int .i64 (T : Int), .int .i64 (K : Int)]) (by simp [results, Try.results24, go_sem]) rfl ⟨rfl, hB3.out⟩
end Tun
end Go.Proofs.Ytdmgbngdpjcliaa
