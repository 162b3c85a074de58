/- The law's ttl of a packet, and wrapped packets parsed. Conditions: slices of bytes that read as lists, sizes below 2^39. -/
import Derived.Test.YtdmgbngdpjcliaaQPktMakes1
import Derived.Test.YtdmgbngdpjcliaaQPktBig14
import Derived.Test.YtdmgbngdpjcliaaQPktBig16
namespace Go.Proofs.Ytdmgbngdpjcliaa
open Go.RowKit Go.ChangeShapes Go.WideShapes Go.ChangeAt Go.Deep
namespace Tun
theorem pcut_as (A : Option Addr) (n c n1 : Nat) (w : World) (hn : n ≤ maxLen) (hc : n ≤ c) (h1 : min n 500 = n1) :
    Calls Try.prog 19 #[.slice A n c] w fun e w' => e = .returned (.slice A n1 c) ∧ w = w' := by
  unfold maxLen at hn
  by_cases h : 500 < n
  · obtain rfl : n1 = 500 := by omega
    go_enter Try.func19, Try.ntmps19
    go_wp2
    go_ret
    exact ⟨rfl, rfl⟩
  · obtain rfl : n1 = n := by omega
    go_enter Try.func19, Try.ntmps19
    go_wp2
    go_ret
    exact ⟨rfl, rfl⟩
/-- A packet in one of version 4, parsed. -/
theorem four_wrapped (p slo dlo n : Nat) (xs ys : List UInt8) (hxl : xs.length = n) (hn : n ≤ 4096) (hp : p ≤ 255) (b6 : slo < 4294967296) (b8 : dlo < 4294967296) (hys : Four.hdB 0 0 16384 64 p slo dlo [] n ++ xs = ys) :
    FourIs (20 + n) ys 0 0 0 true false 0 64 p slo dlo 0 n xs ∧ ys.length = 20 + n ∧ (ys.getD 0 0).toNat / 16 = 4 := by
  obtain ⟨k1, k2, k3, k4, k5, k6, k7, k8, k9, k10, k11, k12, k13, k14, k15⟩ := Four.puts_get 0 0 16384 64 p slo dlo [] xs [] 0 n rfl hxl (by omega) (by omega) (by omega) (by omega) hp b6 b8 (by omega) (by omega) hn ys (by rw [List.append_nil]; exact hys)
  have hl : ys.length = 20 + n := by rw [← hys, List.length_append, Four.hdB_length, hxl]; rfl
  refine ⟨fun A c W hx hc _ => ?_, hl, k1⟩
  refine (Four.parse_ok A (20 + n) c ys W hx hc (by omega) (by omega) k1 20 k2 (by omega) (by omega) k4 (by omega) (by omega) k5).mono ?_
  rintro e w' ⟨A1, c1, A2, c2, rfl, _, _, _, i4, i5⟩
  obtain ⟨_, r1, r2, r3⟩ := i4.reads
  have hrest : (ys.take (beN ys 2 2)).drop 20 = xs := by rw [k3]; exact k14
  have hm : beN ys 2 2 - 20 = n := by omega
  rw [hrest, hm] at r3
  refine ⟨A1, c1, A2, c2, ?_, r3, by omega, r2, i5⟩
  unfold Four.rawV
  rw [k6, k7, k8, k9, k10, k11, k12, hm]
  rfl
/-- A packet in one of version 6, parsed. -/
theorem six_wrapped (p shi slo dhi dlo n : Nat) (xs ys : List UInt8) (hxl : xs.length = n) (hn : n ≤ 4096) (hp : p = 4 ∨ p = 41) (b5 : shi < 18446744073709551616) (b6 : slo < 18446744073709551616) (b7 : dhi < 18446744073709551616) (b8 : dlo < 18446744073709551616) (hys : Six.allB6 0 0 64 shi slo dhi dlo p [] xs = ys) :
    SixIs (40 + n) ys 0 0 0 64 true shi slo true dhi dlo [] p n xs ∧ ys.length = 40 + n ∧ (ys.getD 0 0).toNat / 16 = 6 := by
  have hr : Six.rightHB 0 0 64 true true p [] = true := by rcases hp with rfl | rfl <;> decide
  obtain ⟨g1, g2, _, _, g3, g4, g5, g6, g7, g8, g9⟩ := Six.puts_parse 0 0 64 shi slo dhi dlo p [] xs [] ys hr b5 b6 b7 b8 (by omega) (by rw [List.append_nil]; exact hys)
  have hl : ys.length = 40 + n := by rw [← hys, Six.allB6_length, hxl]; rfl
  rw [hl] at g1
  refine ⟨fun A c W hx hc hcm => ?_, hl, by rw [← hys, Six.allB6_head]; rfl⟩
  refine (Six.parse_any A (40 + n) c ys W hx hc hcm (by omega) 0 0 64 shi slo dhi dlo g3 g4 g5 g6 g7 g8 g9).mono ?_
  rw [g1, g2]
  rintro e w' ⟨_, h2, h3⟩
  obtain ⟨acc', next', rest', hR', X, xc, es, A2, c2, he, hes, hX, hr⟩ := h2 rfl
  cases hR'
  obtain ⟨hx1, hx2, hx3⟩ := hX.isX
  obtain ⟨_, r1, r2, r3⟩ := hr.reads
  subst hxl
  exact ⟨X, es.length, xc, A2, c2, es, he, hes, hx1, hx2, hx3, r3, r1, r2, h3⟩
set_option maxRecDepth 20000 in
set_option maxHeartbeats 4000000 in
theorem ttl_four (n : Nat) (xs : List UInt8) (K tos id : Nat) (df mf : Bool) (frag ttl proto slo dlo n1 m1 : Nat) (rest : List UInt8) (hS : FourIs n xs K tos id df mf frag ttl proto slo dlo n1 m1 rest) (h0 : 0 < n) (hv : (xs.getD 0 0).toNat / 16 = 4)
    (hn1 : n1 ≤ 549755813888) (hm1 : m1 ≤ 549755813888) (A : Option Addr) (c : Nat) (w : World) (hx : IsB w w.heap.size A n xs) (hnc : n ≤ c) (hcm : c ≤ maxLen) :
    Calls Try.prog 24 #[.slice A n c] w fun e w' => e = .returned (.tuple #[.int .i64 (ttl : Int), .int .i64 ((20 + n1 + m1 : Nat) : Int), .int .i64 (K : Int)]) ∧ Below w.heap.size w w' := by
  obtain ⟨T, hT⟩ : ∃ T, 20 + n1 + m1 = T := ⟨_, rfl⟩
  rw [hT]
  obtain ⟨b, off, v0, rfl, hbl, hv0, hv0l, hc0⟩ := hx.byte (i := 0) h0
  rw [Nat.add_zero] at hc0
  rw [hv0] at hv
  have t1 : (((v0 : Int) / 16) == 4) = true := by rw [beq_iff_eq]; omega
  have t2 : (0 : Int) < (n : Int) := by omega
  have t3 : ((n : Int) == 0) = false := by rw [beq_eq_false_iff_ne]; omega
  replace hx := hide hx
  replace hS := hide hS
  replace hv := hide hv
  replace hv0 := hide hv0
  go_enter Try.func24, Try.ntmps24
  go_wp2_with fail
  refine (hS.out _ c _ hx.out hnc hcm).mono ?_
  rintro e w2 ⟨A1, c1, A2, c2, rfl, hr, hm2, hc2, hb2⟩
  obtain ⟨wa, hwa⟩ : ∃ wa, w2.alloc (Four.hdC tos id df mf frag ttl proto false 0 slo false 0 dlo A1 n1 c1) = wa := ⟨_, rfl⟩
  have hba : Below w2.heap.size w2 wa := hwa ▸ (Below.refl _ _).alloc (Nat.le_refl _) _
  have hga := hwa ▸ blk_new w2 51 #[.int .i64 tos, .int .i64 id, .bool df, .bool mf, .int .i64 frag, .int .i64 ttl, .int .i64 proto, .bool false, .int .u64 0, .int .u64 slo, .bool false, .int .u64 0, .int .u64 dlo, .slice A1 n1 c1]
  have hla : w2.heap.size < wa.heap.size := by rw [← hwa]; simp
  unfold Four.hdC at hwa
  have hBa := hb2.trans (hba.mono hb2.size)
  have hcl := fun (l : Later wa) (o : Nat) => blk_cell (blk_below l.hb hla hga) o
  clear hr hba hb2 hc0
  replace hga := hide hga
  replace hBa := hide hBa
  go_upto_region 5 with fail
  clear hwa
  have s1 : 20 + (n1 : Int) + (m1 : Int) = (T : Int) := by omega
  have s2 : IntKind.i64.wrap (T : Int) = (T : Int) := wraps62 _ (by omega) (by omega)
  have s3 : IntKind.i64.wrap (20 + (n1 : Int) + (m1 : Int)) = (T : Int) := by rw [s1]; exact s2
  replace hT := hide hT
  refine wp_region_L (by as_aux_lemma => kernel_rfl) ?_
  refine wpE_seg 0 11 (fuel := 0) (by as_aux_lemma => kernel_rfl) (fun d _ _ _ _ h => by cases d <;> exact h) (by as_aux_lemma => kernel_rfl) (by as_aux_lemma => kernel_rfl) ?_
  simp only [List.drop_zero, List.take_succ_cons, List.take_zero]
  iterate 3 (refine wpQE_step (fun K hK => ?_); go_simp; refine hK _ ?_; clear hK K)
  (refine wpQE_step (fun K hK => ?_); go_simp; apply Exists.intro; refine ⟨fun l => ?_, hK _ ?_⟩; (go_at_call 50; refine (Four.len_any tos id df mf frag ttl proto false 0 slo false 0 dlo A1 n1 c1 _ (by omega)).mono ?_; rintro e w' ⟨rfl, hb⟩; exact ⟨rfl, hb⟩); clear hK K)
  iterate 7 (refine wpQE_step (fun K hK => ?_); go_simp; refine hK _ ?_; clear hK K)
  refine wpQE_nil ?_
  refine wpE_done (by as_aux_lemma => kernel_rfl) (fun w3 hb3 => ?_) 0
  have hB3 := hBa.out.trans (hb3.mono hBa.out.size)
  clear hcl hb3 s1 s2 s3
  replace hB3 := hide hB3
  go_wp2_with fail
  refine bodyPost_ret (v := .tuple #[.int .i64 (ttl : Int), .int .i64 (T : Int), .int .i64 (K : Int)]) (by simp [results, Try.results24, go_sem]) rfl ⟨rfl, hB3.out⟩
set_option maxRecDepth 20000 in
set_option maxHeartbeats 4000000 in
theorem ttl_six (n : Nat) (xs : List UInt8) (K : Nat) (cl la ho : Int) (b1 : Bool) (sh sl : Int) (b2 : Bool) (dh dl : Int) (acc : List (Int × List UInt8)) (nx m1 : Nat) (rest : List UInt8) (hS : SixIs n xs K cl la ho b1 sh sl b2 dh dl acc nx m1 rest) (h0 : 0 < n) (hv : (xs.getD 0 0).toNat / 16 = 6)
    (hal : acc.length ≤ 8) (hall : ∀ e ∈ acc, e.2.length ≤ 2047) (hm1 : m1 ≤ 549755813888) (A : Option Addr) (c : Nat) (w : World) (hx : IsB w w.heap.size A n xs) (hnc : n ≤ c) (hcm : c ≤ maxLen) :
    Calls Try.prog 24 #[.slice A n c] w fun e w' => e = .returned (.tuple #[.int .i64 ho, .int .i64 ((40 + Six.sumP acc + m1 : Nat) : Int), .int .i64 (K : Int)]) ∧ Below w.heap.size w w' := by
  obtain ⟨T, hT⟩ : ∃ T, 40 + Six.sumP acc + m1 = T := ⟨_, rfl⟩
  have hsl := Six.sumP_le acc hall
  rw [hT]
  obtain ⟨b, off, v0, rfl, hbl, hv0, hv0l, hc0⟩ := hx.byte (i := 0) h0
  rw [Nat.add_zero] at hc0
  rw [hv0] at hv
  have t1 : (((v0 : Int) / 16) == 4) = false := by rw [beq_eq_false_iff_ne]; omega
  have t4 : (((v0 : Int) / 16) == 6) = true := by rw [beq_iff_eq]; omega
  have t2 : (0 : Int) < (n : Int) := by omega
  have t3 : ((n : Int) == 0) = false := by rw [beq_eq_false_iff_ne]; omega
  replace hx := hide hx
  replace hS := hide hS
  replace hv := hide hv
  replace hv0 := hide hv0
  replace hall := hide hall
  go_enter Try.func24, Try.ntmps24
  go_wp2_with fail
  refine (hS.out _ c _ hx.out hnc hcm).mono ?_
  rintro e w2 ⟨X, m, xc, A2, c2, es, rfl, hpe, hX, hmx, hxm, hr, hm2, hc2, hb2⟩
  obtain ⟨wa, hwa⟩ : ∃ wa, w2.alloc (Six.hdC cl la ho b1 sh sl b2 dh dl X m xc nx) = wa := ⟨_, rfl⟩
  have hba : Below w2.heap.size w2 wa := hwa ▸ (Below.refl _ _).alloc (Nat.le_refl _) _
  have hga := hwa ▸ blk_new w2 29 #[.int .i64 cl, .int .i64 la, .int .i64 ho, .bool b1, .int .u64 sh, .int .u64 sl, .bool b2, .int .u64 dh, .int .u64 dl, .slice X m xc, .int .i64 nx]
  have hla : w2.heap.size < wa.heap.size := by rw [← hwa]; simp
  unfold Six.hdC at hwa
  have hBa := hb2.trans (hba.mono hb2.size)
  have hXa := hX.on hba
  have hcl := fun (l : Later wa) (o : Nat) => blk_cell (blk_below l.hb hla hga) o
  have hm8 : m ≤ 8 := by rw [← hX.1, ← Six.pes_length, hpe]; exact hal
  have hes : ∀ e ∈ es, e.xs.length ≤ 2047 := fun e he => hall.out (Six.Ext.pe e) (hpe ▸ (List.mem_map_of_mem he : Six.Ext.pe e ∈ Six.pes es))
  obtain ⟨T0, hT0⟩ : ∃ T0, 40 + Six.sumL es = T0 := ⟨_, rfl⟩
  have hT00 : T0 = 40 + Six.sumP acc := by rw [← hT0, Six.sumL_pes, hpe]
  clear hr hba hb2 hc0
  have s1 : (T0 : Int) + (m1 : Int) = (T : Int) := by omega
  have s2 : IntKind.i64.wrap (T : Int) = (T : Int) := wraps62 _ (by omega) (by omega)
  have s3 : IntKind.i64.wrap ((T0 : Int) + (m1 : Int)) = (T : Int) := by rw [s1]; exact s2
  have s4 : T0 ≤ 16424 := by omega
  replace hga := hide hga
  replace hBa := hide hBa
  replace hXa := hide hXa
  replace hpe := hide hpe
  replace hT0 := hide hT0
  replace hT00 := hide hT00
  replace hT := hide hT
  replace hsl := hide hsl
  replace hes := hide hes
  go_upto_region 8 with fail
  clear hwa
  refine wp_region_L (by as_aux_lemma => kernel_rfl) ?_
  refine wpE_seg 0 11 (fuel := 0) (by as_aux_lemma => kernel_rfl) (fun d _ _ _ _ h => by cases d <;> exact h) (by as_aux_lemma => kernel_rfl) (by as_aux_lemma => kernel_rfl) ?_
  simp only [List.drop_zero, List.take_succ_cons, List.take_zero]
  iterate 3 (refine wpQE_step (fun K hK => ?_); go_simp; refine hK _ ?_; clear hK K)
  (refine wpQE_step (fun K hK => ?_); go_simp; apply Exists.intro; refine ⟨fun l => ?_, hK _ ?_⟩; (go_at_call 51; refine (Six.len_any cl la ho b1 sh sl b2 dh dl X m xc nx es _ (hXa.out.later l) hm8 hes.out T0 hT0.out).mono ?_; rintro e w' ⟨rfl, hb⟩; exact ⟨rfl, hb⟩); clear hK K)
  iterate 7 (refine wpQE_step (fun K hK => ?_); go_simp; refine hK _ ?_; clear hK K)
  refine wpQE_nil ?_
  refine wpE_done (by as_aux_lemma => kernel_rfl) (fun w3 hb3 => ?_) 0
  have hB3 := hBa.out.trans (hb3.mono hBa.out.size)
  clear hcl hb3 s1 s2 s3
  replace hB3 := hide hB3
  go_wp2_with fail
  refine bodyPost_ret (v := .tuple #[.int .i64 ho, .int .i64 (T : Int), .int .i64 (K : Int)]) (by simp [results, Try.results24, go_sem]) rfl ⟨rfl, hB3.out⟩
end Tun
end Go.Proofs.Ytdmgbngdpjcliaa
/- The law's made: whether a flow's packet can be made, by contract. No condition. (Written by gen_pktlawmade.py) -/
namespace Go.Proofs.Ytdmgbngdpjcliaa
open Go.RowKit Go.ChangeShapes Go.WideShapes Go.ChangeAt Go.Deep
namespace Pkt
def madeP (pr : Int) (sv : Bool) (shi slo : Int) (dv : Bool) (dhi dlo sp dp ttl fl P : Int) : Prop :=
  pr = P ∧ sv = dv ∧ 0 ≤ ttl ∧ ttl ≤ 255 ∧ 0 ≤ sp ∧ sp ≤ 65535 ∧ 0 ≤ dp ∧ dp ≤ 65535 ∧ 0 ≤ fl ∧ fl ≤ 255 ∧ (sv = true ∨ (shi = 0 ∧ dhi = 0 ∧ slo < 4294967296 ∧ dlo < 4294967296))
instance (pr : Int) (sv : Bool) (shi slo : Int) (dv : Bool) (dhi dlo sp dp ttl fl P : Int) : Decidable (madeP pr sv shi slo dv dhi dlo sp dp ttl fl P) := by unfold madeP; infer_instance
set_option maxRecDepth 20000 in
set_option maxHeartbeats 8000000 in
theorem made_any (pr : Int) (sv : Bool) (shi slo : Int) (dv : Bool) (dhi dlo sp dp ttl fl P : Int) (w : World) :
    Calls Try.prog 36 #[.agg (tuA pr sv shi slo dv dhi dlo sp dp), .int .i64 ttl, .int .i64 fl, .int .i64 P] w fun e w' => e = .returned (.bool (decide (madeP pr sv shi slo dv dhi dlo sp dp ttl fl P))) ∧ Below w.heap.size w w' := by
  have hb : Below w.heap.size w (w.alloc (.cells (tuA pr sv shi slo dv dhi dlo sp dp) 56)) := (Below.refl _ _).alloc (Nat.le_refl _) _
  have hn : ¬ madeP pr sv shi slo dv dhi dlo sp dp ttl fl P → decide (madeP pr sv shi slo dv dhi dlo sp dp ttl fl P) = false := decide_eq_false
  have hy : madeP pr sv shi slo dv dhi dlo sp dp ttl fl P → decide (madeP pr sv shi slo dv dhi dlo sp dp ttl fl P) = true := decide_eq_true
  generalize hB : decide (madeP pr sv shi slo dv dhi dlo sp dp ttl fl P) = B at hn hy ⊢
  clear hB
  unfold madeP at hn hy
  unfold tuA at hb ⊢
  replace hb := hide hb
  by_cases h1 : pr = P
  case neg =>
    have t1 : (pr != P) = true := by simpa using h1
    obtain rfl : B = false := hn (fun h => h1 h.1)
    clear hn hy h1
    go_enter Try.func36, Try.ntmps36
    go_wp2_with fail
    go_ret
    exact ⟨rfl, hb.out⟩
  have t1 : (pr != P) = false := by simpa using h1
  subst h1
  by_cases h2 : sv = dv
  case neg =>
    obtain rfl : B = false := hn (fun h => h2 h.2.1)
    clear hn hy
    rcases sv with _ | _
    · rcases dv with _ | _
      · exact absurd rfl h2
      · clear h2
        go_enter Try.func36, Try.ntmps36
        go_wp2_with fail
        go_ret
        exact ⟨rfl, hb.out⟩
    · rcases dv with _ | _
      · clear h2
        go_enter Try.func36, Try.ntmps36
        go_wp2_with fail
        go_ret
        exact ⟨rfl, hb.out⟩
      · exact absurd rfl h2
  have t2 : (sv != dv) = false := by simpa using h2
  clear t2
  subst h2
  by_cases k3 : 0 ≤ ttl
  case neg =>
    obtain rfl : B = false := hn (fun h => k3 h.2.2.1)
    clear hn hy
    go_enter Try.func36, Try.ntmps36
    go_wp2_with fail
    go_ret
    exact ⟨rfl, hb.out⟩
  by_cases k4 : ttl ≤ 255
  case neg =>
    obtain rfl : B = false := hn (fun h => k4 h.2.2.2.1)
    clear hn hy
    go_enter Try.func36, Try.ntmps36
    go_wp2_with fail
    go_ret
    exact ⟨rfl, hb.out⟩
  by_cases k5 : 0 ≤ sp
  case neg =>
    obtain rfl : B = false := hn (fun h => k5 h.2.2.2.2.1)
    clear hn hy
    go_enter Try.func36, Try.ntmps36
    go_wp2_with fail
    go_ret
    exact ⟨rfl, hb.out⟩
  by_cases k6 : sp ≤ 65535
  case neg =>
    obtain rfl : B = false := hn (fun h => k6 h.2.2.2.2.2.1)
    clear hn hy
    go_enter Try.func36, Try.ntmps36
    go_wp2_with fail
    go_ret
    exact ⟨rfl, hb.out⟩
  by_cases k7 : 0 ≤ dp
  case neg =>
    obtain rfl : B = false := hn (fun h => k7 h.2.2.2.2.2.2.1)
    clear hn hy
    go_enter Try.func36, Try.ntmps36
    go_wp2_with fail
    go_ret
    exact ⟨rfl, hb.out⟩
  by_cases k8 : dp ≤ 65535
  case neg =>
    obtain rfl : B = false := hn (fun h => k8 h.2.2.2.2.2.2.2.1)
    clear hn hy
    go_enter Try.func36, Try.ntmps36
    go_wp2_with fail
    go_ret
    exact ⟨rfl, hb.out⟩
  by_cases k9 : 0 ≤ fl
  case neg =>
    obtain rfl : B = false := hn (fun h => k9 h.2.2.2.2.2.2.2.2.1)
    clear hn hy
    go_enter Try.func36, Try.ntmps36
    go_wp2_with fail
    go_ret
    exact ⟨rfl, hb.out⟩
  by_cases k10 : fl ≤ 255
  case neg =>
    obtain rfl : B = false := hn (fun h => k10 h.2.2.2.2.2.2.2.2.2.1)
    clear hn hy
    go_enter Try.func36, Try.ntmps36
    go_wp2_with fail
    go_ret
    exact ⟨rfl, hb.out⟩
  rcases sv with _ | _
  case true =>
    obtain rfl : B = true := hy ⟨rfl, rfl, k3, k4, k5, k6, k7, k8, k9, k10, .inl rfl⟩
    clear hn hy
    go_enter Try.func36, Try.ntmps36
    go_wp2_with fail
    go_ret
    exact ⟨rfl, hb.out⟩
  by_cases q1 : shi = 0
  case neg =>
    obtain rfl : B = false := hn (fun h => h.2.2.2.2.2.2.2.2.2.2.elim (fun h => by cases h) (fun h => q1 h.1))
    clear hn hy
    have t : (shi == 0) = false := by simpa using q1
    clear q1
    go_enter Try.func36, Try.ntmps36
    go_wp2_with fail
    go_ret
    exact ⟨rfl, hb.out⟩
  subst q1
  by_cases q2 : dhi = 0
  case neg =>
    obtain rfl : B = false := hn (fun h => h.2.2.2.2.2.2.2.2.2.2.elim (fun h => by cases h) (fun h => q2 h.2.1))
    clear hn hy
    have t : (dhi == 0) = false := by simpa using q2
    clear q2
    go_enter Try.func36, Try.ntmps36
    go_wp2_with fail
    go_ret
    exact ⟨rfl, hb.out⟩
  subst q2
  by_cases q3 : slo < 4294967296
  case neg =>
    obtain rfl : B = false := hn (fun h => h.2.2.2.2.2.2.2.2.2.2.elim (fun h => by cases h) (fun h => q3 h.2.2.1))
    clear hn hy
    go_enter Try.func36, Try.ntmps36
    go_wp2_with fail
    go_ret
    exact ⟨rfl, hb.out⟩
  by_cases q4 : dlo < 4294967296
  case neg =>
    obtain rfl : B = false := hn (fun h => h.2.2.2.2.2.2.2.2.2.2.elim (fun h => by cases h) (fun h => q4 h.2.2.2))
    clear hn hy
    go_enter Try.func36, Try.ntmps36
    go_wp2_with fail
    go_ret
    exact ⟨rfl, hb.out⟩
  obtain rfl : B = true := hy ⟨rfl, rfl, k3, k4, k5, k6, k7, k8, k9, k10, .inr ⟨rfl, rfl, q3, q4⟩⟩
  clear hn hy
  go_enter Try.func36, Try.ntmps36
  go_wp2_with fail
  go_ret
  exact ⟨rfl, hb.out⟩
end Pkt
end Go.Proofs.Ytdmgbngdpjcliaa
/- Packets as wholes are compared, in a drawn region. No condition. -/
namespace Go.Proofs.Ytdmgbngdpjcliaa
open Go.RowKit Go.ChangeShapes Go.WideShapes Go.ChangeAt Go.Deep
section
variable {P : Program} {ops : Array Oper} {w0 : World} {Q : Act → Prop} {a : Act} {op : Oper} {rest : List Oper}
/-- A step that is wanted and has one value in every later world. -/
theorem wpQE_val (v : Value) (hw : Region.wanted op (yielded ops a.tmps) = true) (hv : ∀ l : Later w0, (execOp a.eval op).run P l.w = .ok (.value v) l.w)
    (h : wpQE P ops w0 Q rest (a.put op.dst v)) : wpQE P ops w0 Q (op :: rest) a := wpQE_step fun K hK => by
  rw [if_pos hw]
  refine ⟨v, fun l => ?_, hK _ h⟩
  rw [hv l]
  exact ⟨rfl, lt_refl _⟩
/-- A whole struct is read. -/
theorem run_ldw (w : World) (ev : Operand → Value) (ty : TypeId) (x : Operand) (ho : op.op = .load ty x) (g : Nat) (hx : ev x = .pointer (some ⟨g, 0, none⟩)) (cs : Array Value) {t : TypeId} (d : TypeDesc)
    (hS : w.heap[g]? = some (.cells cs t (0, 0))) (hu : P.underlying ty = some d) (hd : d.isRow = true) (hi : (P.info? ty).map (·.size) = some cs.size) : (execOp ev op).run P w = .ok (.value (.agg cs)) w := by
  have h1 := run_loadVar_mid (P := P) w g 0 ty cs.toList d (blk_range hS) hu hd (by rw [hi, Array.length_toList])
  unfold execOp
  simp only [ho, hx, Instr.loadAt, Instr.sureAddr, Sem.run_bind, Sem.run_pure, Result.andThen_ok, h1]
/-- A part of a block that is a struct is read. -/
theorem run_ldp (w : World) (ev : Operand → Value) (ty : TypeId) (x : Operand) (ho : op.op = .load ty x) (g o : Nat) (hx : ev x = .pointer (some ⟨g, o, none⟩)) (cs : List Value) (d : TypeDesc)
    (hS : w.rangeAt g o cs) (hu : P.underlying ty = some d) (hd : d.isRow = true) (hi : (P.info? ty).map (·.size) = some cs.length) : (execOp ev op).run P w = .ok (.value (.agg cs.toArray)) w := by
  have h1 := run_loadVar_mid (P := P) w g o ty cs d hS hu hd hi
  unfold execOp
  simp only [ho, hx, Instr.loadAt, Instr.sureAddr, Sem.run_bind, Sem.run_pure, Result.andThen_ok, h1]
end
namespace Pkt
def pkG (v6 : Bool) (pr : Int) (sv : Bool) (shi slo : Int) (dv : Bool) (dhi dlo sp dp ttl fl : Int) (er : Bool) (apr : Int) (asv : Bool) (ashi aslo : Int) (adv : Bool) (adhi adlo asp adp sz : Int) : Array Value := #[.bool v6, .int .i64 pr, .bool sv, .int .u64 shi, .int .u64 slo, .bool dv, .int .u64 dhi, .int .u64 dlo, .int .i64 sp, .int .i64 dp, .int .i64 ttl, .int .i64 fl, .bool er, .int .i64 apr, .bool asv, .int .u64 ashi, .int .u64 aslo, .bool adv, .int .u64 adhi, .int .u64 adlo, .int .i64 asp, .int .i64 adp, .int .i64 sz]
set_option maxRecDepth 20000 in
set_option maxHeartbeats 4000000 in
theorem neq_pk {op : Oper} (v6 : Bool) (pr : Int) (sv : Bool) (shi slo : Int) (dv : Bool) (dhi dlo sp dp ttl fl : Int) (er : Bool) (apr : Int) (asv : Bool) (ashi aslo : Int) (adv : Bool) (adhi adlo asp adp sz : Int)
    (ev : Operand → Value) (x y : Operand) (ho : op.op = .binOp .neq 58 x y 58) (hx : ev x = .agg (pkG v6 pr sv shi slo dv dhi dlo sp dp ttl fl er apr asv ashi aslo adv adhi adlo asp adp sz)) (hy : ev y = .agg (pkG v6 pr sv shi slo dv dhi dlo sp dp ttl fl er apr asv ashi aslo adv adhi adlo asp adp sz)) (w : World) :
    (execOp ev op).run Try.prog w = .ok (.value (.bool false)) w := by
  unfold execOp
  simp only [ho, hx, hy]
  clear hx hy ho
  unfold pkG
  simp [go_sem]
set_option maxRecDepth 20000 in
set_option maxHeartbeats 4000000 in
theorem eql_pk {op : Oper} (v6 : Bool) (pr : Int) (sv : Bool) (shi slo : Int) (dv : Bool) (dhi dlo sp dp ttl fl : Int) (er : Bool) (apr : Int) (asv : Bool) (ashi aslo : Int) (adv : Bool) (adhi adlo asp adp sz : Int)
    (ev : Operand → Value) (x y : Operand) (ho : op.op = .binOp .eql 58 x y 58) (hx : ev x = .agg (pkG v6 pr sv shi slo dv dhi dlo sp dp ttl fl er apr asv ashi aslo adv adhi adlo asp adp sz)) (hy : ev y = .agg (pkG v6 pr sv shi slo dv dhi dlo sp dp ttl fl er apr asv ashi aslo adv adhi adlo asp adp sz)) (w : World) :
    (execOp ev op).run Try.prog w = .ok (.value (.bool true)) w := by
  unfold execOp
  simp only [ho, hx, hy]
  clear hx hy ho
  unfold pkG
  simp [go_sem]
end Pkt
end Go.Proofs.Ytdmgbngdpjcliaa
/- The statement PktMakes: which flows can be made, by contract, and what is behind a header. Conditions: slices of bytes that read as lists, numbers of 64 bits. -/
namespace Go.Proofs.Ytdmgbngdpjcliaa
open Go.RowKit Go.ChangeShapes Go.WideShapes Go.ChangeAt Go.Deep
namespace Pkt
theorem InEnd.as {U V : List UInt8} {K : Nat} {w w' : World} {e : Ending} (h : InEnd K U w w' e) (hk : K ≠ 0) : InEnd K V w w' e := by
  obtain ⟨v, he, h1, h2, h3⟩ := h
  exact ⟨v, he, fun h => absurd h hk, h2, h3⟩
theorem datagram_any (pr : Int) (sv : Bool) (shi slo : Nat) (dv : Bool) (dhi dlo : Nat) (sp dp ttl : Int) (A : Option Addr) (n c : Nat) (xs : List UInt8) (w : World) (hx : IsB w w.heap.size A n xs) (hn : n ≤ 4000)
    (h4 : shi < 18446744073709551616) (h5 : slo < 18446744073709551616) (h6 : dhi < 18446744073709551616) (h7 : dlo < 18446744073709551616) :
    Calls Try.prog 34 #[.agg (tuA pr sv shi slo dv dhi dlo sp dp), .int .i64 ttl, .slice A n c] w fun e w' => InEnd (dgmK pr sv shi slo dv dhi dlo sp dp ttl) (wrapB sv shi slo dhi dlo 17 ttl (dgU sv shi slo dhi dlo sp dp xs)) w w' e := by
  by_cases h : pr ≠ 17 ∨ sv ≠ dv
  · have hk : dgmK pr sv shi slo dv dhi dlo sp dp ttl = 1 := by unfold dgmK; rw [if_pos h]
    rw [hk]
    exact (datagram_no pr sv shi slo dv dhi dlo sp dp ttl A n c w h).mono fun e w' he => he.as (by omega)
  · obtain ⟨rfl, rfl⟩ : pr = 17 ∧ sv = dv := by simpa using h
    rcases sv with _ | _
    · exact datagram_four shi slo dhi dlo sp dp ttl A n c xs w hx hn h4 h5 h6 h7
    · exact datagram_six shi slo dhi dlo sp dp ttl A n c xs w hx hn h4 h5 h6 h7
theorem segment_any (pr : Int) (sv : Bool) (shi slo : Nat) (dv : Bool) (dhi dlo : Nat) (sp dp ttl fl : Int) (A : Option Addr) (n c : Nat) (xs : List UInt8) (w : World) (hx : IsB w w.heap.size A n xs) (hn : n ≤ 4000)
    (h4 : shi < 18446744073709551616) (h5 : slo < 18446744073709551616) (h6 : dhi < 18446744073709551616) (h7 : dlo < 18446744073709551616) :
    Calls Try.prog 35 #[.agg (tuA pr sv shi slo dv dhi dlo sp dp), .int .i64 ttl, .int .i64 fl, .slice A n c] w fun e w' => InEnd (sgmK pr sv shi slo dv dhi dlo sp dp fl ttl) (wrapB sv shi slo dhi dlo 6 ttl (sgU sv shi slo dhi dlo sp dp fl xs)) w w' e := by
  by_cases h : pr ≠ 6 ∨ sv ≠ dv
  · have hk : sgmK pr sv shi slo dv dhi dlo sp dp fl ttl = 1 := by unfold sgmK; rw [if_pos h]
    rw [hk]
    exact (segment_no pr sv shi slo dv dhi dlo sp dp ttl fl A n c w h).mono fun e w' he => he.as (by omega)
  · obtain ⟨rfl, rfl⟩ : pr = 6 ∧ sv = dv := by simpa using h
    rcases sv with _ | _
    · exact segment_four shi slo dhi dlo sp dp ttl fl A n c xs w hx hn h4 h5 h6 h7
    · exact segment_six shi slo dhi dlo sp dp ttl fl A n c xs w hx hn h4 h5 h6 h7
theorem wrapK_le (v : Bool) (ttl a b c d : Int) : wrapK v ttl a b c d ≤ 1 := by
  unfold wrapK ttlK fourK
  split <;> split <;> omega
theorem dgmK_le (pr : Int) (sv : Bool) (shi slo : Int) (dv : Bool) (dhi dlo sp dp ttl : Int) : dgmK pr sv shi slo dv dhi dlo sp dp ttl ≤ 1 := by
  have h1 := wrapK_le sv ttl shi slo dhi dlo
  have h2 : dgK sp dp ≤ 1 := by unfold dgK; split <;> omega
  unfold dgmK
  split
  · omega
  · split <;> omega
theorem sgmK_le (pr : Int) (sv : Bool) (shi slo : Int) (dv : Bool) (dhi dlo sp dp fl ttl : Int) : sgmK pr sv shi slo dv dhi dlo sp dp fl ttl ≤ 1 := by
  have h1 := wrapK_le sv ttl shi slo dhi dlo
  have h2 : sgK sp dp fl ≤ 1 := by unfold sgK; split <;> omega
  unfold sgmK
  split
  · omega
  · split <;> omega
theorem okA_iff (hi lo : Int) (h1 : 0 ≤ lo) : (Four.okA false hi lo = true) ↔ (hi = 0 ∧ lo < 4294967296) := by
  unfold Four.okA
  simp
theorem wrapK_iff (sv : Bool) (ttl : Int) (shi slo dhi dlo : Nat) : wrapK sv ttl shi slo dhi dlo = 0 ↔ (0 ≤ ttl ∧ ttl ≤ 255 ∧ (sv = true ∨ ((shi : Int) = 0 ∧ (dhi : Int) = 0 ∧ (slo : Int) < 4294967296 ∧ (dlo : Int) < 4294967296))) := by
  unfold wrapK
  rcases sv with _ | _
  · rw [if_neg (by simp)]
    unfold fourK
    have o1 := okA_iff shi slo (by omega)
    have o2 := okA_iff dhi dlo (by omega)
    split
    · rename_i h
      rw [o1, o2] at h
      exact ⟨fun _ => ⟨h.1, h.2.1, .inr ⟨h.2.2.1.1, h.2.2.2.1, h.2.2.1.2, h.2.2.2.2⟩⟩, fun _ => rfl⟩
    · rename_i h
      rw [o1, o2] at h
      refine ⟨fun h => absurd h (by omega), fun ⟨a, b, c⟩ => ?_⟩
      rcases c with c | ⟨c, d, e, f⟩
      · cases c
      · exact absurd ⟨a, b, ⟨c, e⟩, d, f⟩ h
  · rw [if_pos rfl]
    unfold ttlK
    split
    · rename_i h
      exact ⟨fun _ => ⟨h.1, h.2, .inl rfl⟩, fun _ => rfl⟩
    · rename_i h
      exact ⟨fun h => absurd h (by omega), fun ⟨a, b, _⟩ => absurd ⟨a, b⟩ h⟩
theorem dgm_made (pr : Int) (sv : Bool) (shi slo : Nat) (dv : Bool) (dhi dlo : Nat) (sp dp ttl : Int) : madeP pr sv shi slo dv dhi dlo sp dp ttl 0 17 ↔ dgmK pr sv shi slo dv dhi dlo sp dp ttl = 0 := by
  unfold dgmK madeP
  by_cases h : pr ≠ 17 ∨ sv ≠ dv
  · rw [if_pos h]
    exact ⟨fun hh => by rcases h with h | h; exact absurd hh.1 h; exact absurd hh.2.1 h, fun hh => by omega⟩
  · rw [if_neg h]
    obtain ⟨rfl, rfl⟩ : pr = 17 ∧ sv = dv := by simpa using h
    have hw := wrapK_iff sv ttl shi slo dhi dlo
    have hd : dgK sp dp = 0 ↔ (0 ≤ sp ∧ sp ≤ 65535 ∧ 0 ≤ dp ∧ dp ≤ 65535) := by
      unfold dgK Udp.rightP
      simp only [decide_eq_true_eq]
      split
      · rename_i h; exact ⟨fun _ => (by omega), fun _ => rfl⟩
      · rename_i h; exact ⟨fun h => absurd h (by omega), fun hh => absurd (by omega) h⟩
    by_cases h0 : dgK sp dp = 0
    · rw [if_pos h0, hw]
      have h1 := hd.1 h0
      exact ⟨fun hh => ⟨hh.2.2.1, hh.2.2.2.1, hh.2.2.2.2.2.2.2.2.2.2⟩, fun hh => ⟨rfl, rfl, hh.1, hh.2.1, h1.1, h1.2.1, h1.2.2.1, h1.2.2.2, by omega, by omega, hh.2.2⟩⟩
    · rw [if_neg h0]
      exact ⟨fun hh => absurd (hd.2 ⟨hh.2.2.2.2.1, hh.2.2.2.2.2.1, hh.2.2.2.2.2.2.1, hh.2.2.2.2.2.2.2.1⟩) h0, fun hh => absurd hh h0⟩
theorem sgm_made (pr : Int) (sv : Bool) (shi slo : Nat) (dv : Bool) (dhi dlo : Nat) (sp dp ttl fl : Int) : madeP pr sv shi slo dv dhi dlo sp dp ttl fl 6 ↔ sgmK pr sv shi slo dv dhi dlo sp dp fl ttl = 0 := by
  unfold sgmK madeP
  by_cases h : pr ≠ 6 ∨ sv ≠ dv
  · rw [if_pos h]
    exact ⟨fun hh => by rcases h with h | h; exact absurd hh.1 h; exact absurd hh.2.1 h, fun hh => by omega⟩
  · rw [if_neg h]
    obtain ⟨rfl, rfl⟩ : pr = 6 ∧ sv = dv := by simpa using h
    have hw := wrapK_iff sv ttl shi slo dhi dlo
    have hd : sgK sp dp fl = 0 ↔ (0 ≤ sp ∧ sp ≤ 65535 ∧ 0 ≤ dp ∧ dp ≤ 65535 ∧ 0 ≤ fl ∧ fl ≤ 255) := by
      unfold sgK Tcp.rightP
      simp only [decide_eq_true_eq]
      split
      · rename_i h; exact ⟨fun _ => (by omega), fun _ => rfl⟩
      · rename_i h; exact ⟨fun h => absurd h (by omega), fun hh => absurd (by omega) h⟩
    by_cases h0 : sgK sp dp fl = 0
    · rw [if_pos h0, hw]
      have h1 := hd.1 h0
      exact ⟨fun hh => ⟨hh.2.2.1, hh.2.2.2.1, hh.2.2.2.2.2.2.2.2.2.2⟩, fun hh => ⟨rfl, rfl, hh.1, hh.2.1, h1.1, h1.2.1, h1.2.2.1, h1.2.2.2.1, h1.2.2.2.2.1, h1.2.2.2.2.2, hh.2.2⟩⟩
    · rw [if_neg h0]
      exact ⟨fun hh => absurd (hd.2 ⟨hh.2.2.2.2.1, hh.2.2.2.2.2.1, hh.2.2.2.2.2.2.1, hh.2.2.2.2.2.2.2.1, hh.2.2.2.2.2.2.2.2.1, hh.2.2.2.2.2.2.2.2.2.1⟩) h0, fun hh => absurd hh h0⟩
/-- Whether a datagram can be made. -/
theorem made_dgm (pr : Int) (sv : Bool) (shi slo : Nat) (dv : Bool) (dhi dlo : Nat) (sp dp ttl : Int) (B : Bool) (hB : decide (dgmK pr sv shi slo dv dhi dlo sp dp ttl = 0) = B) (w : World) :
    Calls Try.prog 36 #[.agg (tuA pr sv shi slo dv dhi dlo sp dp), .int .i64 ttl, .int .i64 0, .int .i64 17] w fun e w' => e = .returned (.bool B) ∧ Below w.heap.size w w' := by
  have h := made_any pr sv shi slo dv dhi dlo sp dp ttl 0 17 w
  have he : decide (madeP pr sv shi slo dv dhi dlo sp dp ttl 0 17) = B := by rw [← hB]; exact decide_eq_decide.2 (dgm_made pr sv shi slo dv dhi dlo sp dp ttl)
  rw [he] at h
  exact h
theorem made_sgm (pr : Int) (sv : Bool) (shi slo : Nat) (dv : Bool) (dhi dlo : Nat) (sp dp ttl fl : Int) (B : Bool) (hB : decide (sgmK pr sv shi slo dv dhi dlo sp dp fl ttl = 0) = B) (w : World) :
    Calls Try.prog 36 #[.agg (tuA pr sv shi slo dv dhi dlo sp dp), .int .i64 ttl, .int .i64 fl, .int .i64 6] w fun e w' => e = .returned (.bool B) ∧ Below w.heap.size w w' := by
  have h := made_any pr sv shi slo dv dhi dlo sp dp ttl fl 6 w
  have he : decide (madeP pr sv shi slo dv dhi dlo sp dp ttl fl 6) = B := by rw [← hB]; exact decide_eq_decide.2 (sgm_made pr sv shi slo dv dhi dlo sp dp ttl fl)
  rw [he] at h
  exact h
theorem wrapB_rest (sv : Bool) (shi slo dhi dlo pr : Nat) (ttl : Int) (U : List UInt8) (k : Nat) : (wrapB sv shi slo dhi dlo pr ttl U).drop ((if sv = true then 40 else 20) + k) = U.drop k := by
  unfold wrapB
  rcases sv with _ | _
  · rw [if_neg (by simp), if_neg (by simp)]
    have h : (Four.hdB 0 0 0 ttl.toNat pr slo dlo [] U.length).length = 20 := by rw [Four.hdB_length]; rfl
    rw [← h, List.drop_append, List.drop_of_length_le (by omega), List.nil_append]
    congr 1
    omega
  · rw [if_pos rfl, if_pos rfl]
    have h : (Six.hd8 0 0 ttl.toNat pr U.length ++ addrB true shi slo ++ addrB true dhi dlo).length = 40 := by
      simp [Six.hd8_length, addrB, beB_length]
    have h2 : Six.allB6 0 0 ttl.toNat shi slo dhi dlo pr [] U = (Six.hd8 0 0 ttl.toNat pr U.length ++ addrB true shi slo ++ addrB true dhi dlo) ++ U := rfl
    rw [h2, ← h, List.drop_append, List.drop_of_length_le (by omega), List.nil_append]
    congr 1
    omega
theorem wrapB_length (sv : Bool) (shi slo dhi dlo pr : Nat) (ttl : Int) (U : List UInt8) : (wrapB sv shi slo dhi dlo pr ttl U).length = (if sv = true then 40 else 20) + U.length := by
  unfold wrapB
  rcases sv with _ | _
  · rw [if_neg (by simp), if_neg (by simp), List.length_append, Four.hdB_length]; rfl
  · rw [if_pos rfl, if_pos rfl, Six.allB6_length]; rfl
theorem dgU_rest (sv : Bool) (shi slo dhi dlo : Nat) (sp dp : Int) (xs : List UInt8) (hl : xs.length ≤ 4000) (h1 : 0 ≤ sp ∧ sp ≤ 65535) (h2 : 0 ≤ dp ∧ dp ≤ 65535) : (dgU sv shi slo dhi dlo sp dp xs).drop 8 = xs := by
  unfold dgU
  refine (Udp.dg_parse true _ sp.toNat dp.toNat xs ?_ (by omega) (by omega) (by omega)).2.2.2.2
  unfold aheadB
  split
  · rw [ps6_even]
  · simp [beB_length]
theorem sgU_rest (sv : Bool) (shi slo dhi dlo : Nat) (sp dp fl : Int) (xs : List UInt8) (h1 : 0 ≤ sp ∧ sp ≤ 65535) (h2 : 0 ≤ dp ∧ dp ≤ 65535) (h3 : 0 ≤ fl ∧ fl ≤ 255) : (sgU sv shi slo dhi dlo sp dp fl xs).drop 20 = xs := by
  unfold sgU
  refine (Tcp.sg_parse _ sp.toNat dp.toNat fl.toNat xs ?_ (by omega) (by omega) (by omega)).2.2.2.2.2
  unfold aheadB
  split
  · rw [ps6_even]
  · simp [beB_length]
end Pkt
end Go.Proofs.Ytdmgbngdpjcliaa
/- The statement PktMakes, walked where a datagram can be made. Conditions: a slice of bytes that reads as a list, numbers of 64 bits. (Written by gen_pktmakes.py) -/
namespace Go.Proofs.Ytdmgbngdpjcliaa
open Go.RowKit Go.ChangeShapes Go.WideShapes Go.ChangeAt Go.Deep
namespace Pkt
set_option maxRecDepth 20000 in
set_option maxHeartbeats 8000000 in
theorem makes_dgm (sv : Bool) (shi slo : Nat) (dhi dlo : Nat) (sp dp ttl fl : Int) (A : Option Addr) (n0 n c : Nat) (xs : List UInt8) (w : World) (hx : IsB w w.heap.size A n xs) (hn : min n0 500 = n) (hnc : n0 ≤ c) (hcm : c ≤ maxLen)
    (h4 : shi < 18446744073709551616) (h5 : slo < 18446744073709551616) (h6 : dhi < 18446744073709551616) (h7 : dlo < 18446744073709551616)
    (hk : dgmK 17 sv shi slo sv dhi dlo sp dp ttl = 0) (sz : Nat) (hsz : (if sv = true then 40 else 20) = sz) (m : Nat) (hm : sz + 8 + n = m) (hr : (0 ≤ sp ∧ sp ≤ 65535) ∧ 0 ≤ dp ∧ dp ≤ 65535) :
    Calls Try.prog 9 #[.agg (tuA 17 sv shi slo sv dhi dlo sp dp), .int .i64 ttl, .int .i64 fl, .slice A n0 c] w fun e w' => e = .returned (.bool true) ∧ Below w.heap.size w w' := by
  obtain ⟨w1, hw1⟩ : ∃ w1, w.alloc (.cells (tuA 17 sv shi slo sv dhi dlo sp dp) 56) = w1 := ⟨_, rfl⟩
  have hb1 : Below w.heap.size w w1 := hw1 ▸ (Below.refl _ _).alloc (Nat.le_refl _) _
  have hg1 : w1.heap[w.heap.size]? = some (.cells (tuA 17 sv shi slo sv dhi dlo sp dp) 56 (0, 0)) := hw1 ▸ blk_new _ _ _
  have hz1 : w.heap.size < w1.heap.size := by rw [← hw1]; simp
  have hx1 := hx.on hb1
  have hxl := hx.1
  have hD := fun (w : World) (hx : IsB w w.heap.size A n xs) => datagram_any 17 sv shi slo sv dhi dlo sp dp ttl A n c xs w hx (by omega) h4 h5 h6 h7
  have hS := fun (w : World) (hx : IsB w w.heap.size A n xs) => segment_any 17 sv shi slo sv dhi dlo sp dp ttl fl A n c xs w hx (by omega) h4 h5 h6 h7
  have hk2 : sgmK 17 sv shi slo sv dhi dlo sp dp fl ttl = 1 := by unfold sgmK; rw [if_pos (.inl (by omega))]
  have hM1 := made_dgm 17 sv shi slo sv dhi dlo sp dp ttl true (by rw [hk]; rfl)
  have hM2 := made_sgm 17 sv shi slo sv dhi dlo sp dp ttl fl false (by rw [hk2]; rfl)
  have hP := parse_dgm sv shi slo dhi dlo sp dp ttl xs (by omega) h4 h5 h6 h7 hk m (by omega)
  have hUl : (wrapB sv shi slo dhi dlo 17 ttl (dgU sv shi slo dhi dlo sp dp xs)).length = m := by rw [wrapB_length, dgU_length, hsz]; omega
  have hUr : (wrapB sv shi slo dhi dlo 17 ttl (dgU sv shi slo dhi dlo sp dp xs)).drop (sz + 8) = xs := by rw [← hsz, wrapB_rest, dgU_rest sv shi slo dhi dlo sp dp xs (by omega) hr.1 hr.2]
  obtain ⟨U, hU⟩ : ∃ U, wrapB sv shi slo dhi dlo 17 ttl (dgU sv shi slo dhi dlo sp dp xs) = U := ⟨_, rfl⟩
  rw [hk, hU] at hD
  rw [hk2] at hS
  rw [hU] at hP hUl hUr
  obtain ⟨y, hy⟩ : ∃ y, pkA sv 17 shi slo dhi dlo sp dp ttl 0 m = y := ⟨_, rfl⟩
  have hys : y.size = 23 := hy ▸ rfl
  have hyo : y.all (·.oneCell') = true := hy ▸ pkA_one _ _ _ _ _ _ _ _ _ _ _
  rw [hy] at hP
  have hszv : sz = 20 ∨ sz = 40 := by rw [← hsz]; split <;> omega
  unfold tuA at hw1 hg1 hD hS hM1 hM2 ⊢
  have hcs := blk_cell hg1
  have hn0 : n0 ≤ maxLen := by omega
  clear hk hk2 hU hr
  replace hx := hide hx
  replace hn := hide hn
  replace hb1 := hide hb1
  replace hg1 := hide hg1
  replace hx1 := hide hx1
  replace hD := hide hD
  replace hS := hide hS
  replace hM1 := hide hM1
  replace hM2 := hide hM2
  replace hP := hide hP
  replace hUl := hide hUl
  replace hUr := hide hUr
  replace hy := hide hy
  replace hys := hide hys
  replace hyo := hide hyo
  replace hxl := hide hxl
  replace hm := hide hm
  replace hsz := hide hsz
  replace hszv := hide hszv
  go_enter Try.func9, Try.ntmps9
  go_wp2_with fail
  refine (Tun.pcut_as A n0 c n _ hn0 hnc hn.out).mono ?_
  rintro e w' ⟨rfl, rfl⟩
  clear hw1
  go_wp2_with fail
  refine (hD.out _ hx1.out).mono ?_
  rintro e w2 ⟨v2, rfl, h1v, -, hb2⟩
  have hown := h1v rfl
  obtain ⟨A2, c2, rfl, hc2, hm2, hi2⟩ := hown.form
  obtain ⟨ad2, rfl⟩ : ∃ ad2, A2 = some ⟨ad2, 0, none⟩ := by
    obtain ⟨g, cur, hg, -⟩ := hown.row (by have := hUl.out; have := hm.out; have := hszv.out; omega)
    exact ⟨g, hg⟩
  rw [hUl.out] at hi2 hc2 ⊢
  clear h1v hown
  have hg2 := blk_below hb2 hz1 hg1.out
  have hB2 := hb1.out.trans (hb2.mono hb1.out.size)
  have hx2 := hx1.out.on hb2
  have hz2 : w.heap.size < w2.heap.size := by have := hb2.size; omega
  clear hb2 hcs hg1 hx1 hb1 hz1
  have hcs := blk_cell hg2
  replace hg2 := hide hg2
  replace hB2 := hide hB2
  replace hx2 := hide hx2
  replace hi2 := hide hi2
  go_wp2_with fail
  refine (hS.out _ hx2.out).mono ?_
  rintro e w3 ⟨v3, rfl, -, hv3, hb3⟩
  obtain rfl := hv3 (by omega)
  clear hv3
  have hi3 := hi2.out.on hb3
  have hg3 := blk_below hb3 hz2 hg2.out
  have hB3 := hB2.out.trans (hb3.mono hB2.out.size)
  have hx3 := hx2.out.on hb3
  have hz3 : w.heap.size < w3.heap.size := by have := hb3.size; omega
  clear hb3 hcs hg2 hx2 hB2 hz2 hi2
  have hcs := blk_cell hg3
  replace hg3 := hide hg3
  replace hB3 := hide hB3
  replace hx3 := hide hx3
  replace hi3 := hide hi3
  go_wp2_with fail
  refine (hM1.out _).mono ?_
  rintro e w4 ⟨rfl, hb4⟩
  have hg4 := blk_below hb4 hz3 hg3.out
  have hB4 := hB3.out.trans (hb4.mono hB3.out.size)
  have hz4 : w.heap.size < w4.heap.size := by have := hb4.size; omega
  have hx4 := hx3.out.on hb4
  have hi4 := hi3.out.on hb4
  clear hb4 hcs hg3 hB3 hz3 hx3 hi3
  have hcs := blk_cell hg4
  replace hg4 := hide hg4
  replace hB4 := hide hB4
  replace hx4 := hide hx4
  replace hi4 := hide hi4
  go_wp2_with fail
  refine (hM2.out _).mono ?_
  rintro e w5 ⟨rfl, hb5⟩
  have hg5 := blk_below hb5 hz4 hg4.out
  have hB5 := hB4.out.trans (hb5.mono hB4.out.size)
  have hz5 : w.heap.size < w5.heap.size := by have := hb5.size; omega
  have hx5 := hx4.out.on hb5
  have hi5 := hi4.out.on hb5
  clear hb5 hcs hg4 hB4 hz4 hx4 hi4
  have hcs := blk_cell hg5
  have hPc := hP.out (some ⟨ad2, 0, none⟩) c2 w5 hi5 hc2 hm2
  replace hg5 := hide hg5
  replace hB5 := hide hB5
  replace hx5 := hide hx5
  replace hi5 := hide hi5
  replace hPc := hide hPc
  rcases sv with _ | _
  case false =>
    obtain rfl : sz = 20 := hsz.out.symm
    go_upto_region 10 with fail
    apply wp_region_lit
    iterate 1 (refine wpList_plain rfl fun K hK => ?_; go_simp; refine hK _ _ ?_; clear hK K)
    refine wpList_plain rfl fun K hK => ?_
    go_simp
    refine (hPc.out).mono ?_
    rintro e w6 hE
    obtain ⟨z6, rfl, hzs, hzo, hzz, hb6⟩ := hE.letter (fun _ => ⟨hys.out, hyo.out⟩)
    rw [if_pos rfl] at hzz
    subst hzz
    have hB6 := hB5.out.trans (hb6.mono hB5.out.size)
    have hg6 := blk_below hb6 hz5 hg5.out
    have hz6 : w.heap.size < w6.heap.size := by have := hb6.size; omega
    have hx6 := hx5.out.on hb6
    have hi6 := hi5.out.on hb6
    clear hE hb6 hPc hB5 hg5 hx5 hi5 hcs hz5
    replace hB6 := hide hB6
    replace hg6 := hide hg6
    replace hx6 := hide hx6
    replace hi6 := hide hi6
    replace hzs := hide hzs
    replace hzo := hide hzo
    go_simp
    refine hK _ _ ?_
    clear hK K
    iterate 3 (refine wpList_plain rfl fun K hK => ?_; go_simp; refine hK _ _ ?_; clear hK K)
    refine wpl_new rfl rfl 58 _ (alloc_pk _ rfl) 14 rfl (.tmp 74) rfl _ (fun _ => rfl) (fun _ => rfl) (by rw [pkZ_size]; exact hzs.out) (by rw [size_pk, hzs.out]) hzo.out ?_
    intro w7 hgp hb7 hz7
    have hB7 := hB6.out.trans (hb7.mono hB6.out.size)
    have hg7 := blk_below hb7 hz6 hg6.out
    have hx7 := hx6.out.on hb7
    have hi7 := hi6.out.on hb7
    have hz7' : w.heap.size < w7.heap.size := by omega
    clear hb7 hB6 hg6 hx6 hi6
    iterate 1 (refine wpList_plain rfl fun K hK => ?_; go_simp; refine hK _ _ ?_; clear hK K)
    refine wpList_nil ?_
    have hd1 := fun (l : Later w7) (o : Nat) => blk_cell (blk_below l.hb hz7' hg7) o
    have hd2 := fun l : Later w7 => (hx7.later l).str c
    have hml := hm.out
    have hn5 : n ≤ 500 := by have := hn.out; omega
    have hk : IntKind.i64.wrap 28 = 28 := rfl
    have hfa : ((m : Int) != IntKind.i64.wrap (28 + (n : Int))) = false := by
      rw [bne_eq_false_iff_eq, IntKind.wrap_i64]
      omega
    obtain ⟨A7, hA7⟩ : ∃ A7, (if c2 = 28 then some (⟨ad2, 0, none⟩ : Addr) else some ⟨ad2, 0 + 28, none⟩) = A7 := ⟨_, rfl⟩
    have hi8 := hi7.dropAt hA7 (by omega) hc2
    rw [show m - 28 = n by omega] at hi8
    rw [show (U.drop 28) = xs from hUr.out] at hi8
    have hd3 := fun l : Later w7 => (hi8.later l).str (c2 - 28)
    rw [Nat.zero_add] at hA7
    have hkm : (28 : Int) ≤ (m : Int) := by omega
    have hmk : m - 28 = n := by omega
    have hkc : 28 ≤ c2 := by omega
    clear hml
    replace hB7 := hide hB7
    replace hg7 := hide hg7
    replace hx7 := hide hx7
    replace hi7 := hide hi7
    replace hgp := hide hgp
    replace hi8 := hide hi8
    go_upto_region 11 with fail
    refine wp_region_L (by as_aux_lemma => kernel_rfl) ?_
    refine wpE_seg 0 34 (fuel := 0) (by as_aux_lemma => kernel_rfl) (fun d _ _ _ _ h => by cases d <;> exact h) (by as_aux_lemma => kernel_rfl) (by as_aux_lemma => kernel_rfl) ?_
    simp only [List.drop_zero, List.take_succ_cons, List.take_zero]
    iterate 13 (refine wpQE_step (fun K hK => ?_); go_simp; refine hK _ ?_; clear hK K)
    refine wpQE_val (.agg y) rfl (fun l => run_ldw l.w _ 58 (.tmp 14) rfl w6.heap.size rfl y _ (blk_below l.hb hz7 hgp.out) Try.underlying58 rfl (by rw [size_pk, hys.out])) ?_
    dsimp only [Act.put]
    iterate 8 (refine wpQE_step (fun K hK => ?_); go_simp; refine hK _ ?_; clear hK K)
    refine wpQE_val (.bool false) rfl (fun l => neq_pk false 17 false shi slo false dhi dlo sp dp ttl 0 false 0 false 0 0 false 0 0 0 0 m _ (.tmp 89) (.tmp 97) rfl (by rw [← show pkA false 17 shi slo dhi dlo sp dp ttl 0 m = y from hy.out]; rfl) rfl l.w) ?_
    dsimp only [Act.put]
    iterate 11 (refine wpQE_step (fun K hK => ?_); go_simp; refine hK _ ?_; clear hK K)
    refine wpQE_nil ?_
    refine wpE_done (by as_aux_lemma => kernel_rfl) (fun w8 hb8 => ?_) 0
    have hB8 := hB7.out.trans (hb8.mono hB7.out.size)
    clear hb8 hd1 hd2 hd3
    replace hB8 := hide hB8
    go_wp2_with fail
    refine (awake_any _).mono ?_
    rintro e w9 ⟨rfl, hb9⟩
    have hB9 := hB8.out.trans (hb9.mono hB8.out.size)
    clear hb9
    replace hB9 := hide hB9
    go_wp2_with fail
    go_ret
    exact ⟨rfl, hB9.out⟩
  case true =>
    obtain rfl : sz = 40 := hsz.out.symm
    go_upto_region 10 with fail
    apply wp_region_lit
    iterate 1 (refine wpList_plain rfl fun K hK => ?_; go_simp; refine hK _ _ ?_; clear hK K)
    refine wpList_plain rfl fun K hK => ?_
    go_simp
    refine (hPc.out).mono ?_
    rintro e w6 hE
    obtain ⟨z6, rfl, hzs, hzo, hzz, hb6⟩ := hE.letter (fun _ => ⟨hys.out, hyo.out⟩)
    rw [if_pos rfl] at hzz
    subst hzz
    have hB6 := hB5.out.trans (hb6.mono hB5.out.size)
    have hg6 := blk_below hb6 hz5 hg5.out
    have hz6 : w.heap.size < w6.heap.size := by have := hb6.size; omega
    have hx6 := hx5.out.on hb6
    have hi6 := hi5.out.on hb6
    clear hE hb6 hPc hB5 hg5 hx5 hi5 hcs hz5
    replace hB6 := hide hB6
    replace hg6 := hide hg6
    replace hx6 := hide hx6
    replace hi6 := hide hi6
    replace hzs := hide hzs
    replace hzo := hide hzo
    go_simp
    refine hK _ _ ?_
    clear hK K
    iterate 3 (refine wpList_plain rfl fun K hK => ?_; go_simp; refine hK _ _ ?_; clear hK K)
    refine wpl_new rfl rfl 58 _ (alloc_pk _ rfl) 14 rfl (.tmp 74) rfl _ (fun _ => rfl) (fun _ => rfl) (by rw [pkZ_size]; exact hzs.out) (by rw [size_pk, hzs.out]) hzo.out ?_
    intro w7 hgp hb7 hz7
    have hB7 := hB6.out.trans (hb7.mono hB6.out.size)
    have hg7 := blk_below hb7 hz6 hg6.out
    have hx7 := hx6.out.on hb7
    have hi7 := hi6.out.on hb7
    have hz7' : w.heap.size < w7.heap.size := by omega
    clear hb7 hB6 hg6 hx6 hi6
    iterate 1 (refine wpList_plain rfl fun K hK => ?_; go_simp; refine hK _ _ ?_; clear hK K)
    refine wpList_nil ?_
    have hd1 := fun (l : Later w7) (o : Nat) => blk_cell (blk_below l.hb hz7' hg7) o
    have hd2 := fun l : Later w7 => (hx7.later l).str c
    have hml := hm.out
    have hn5 : n ≤ 500 := by have := hn.out; omega
    have hk : IntKind.i64.wrap 48 = 48 := rfl
    have hfa : ((m : Int) != IntKind.i64.wrap (48 + (n : Int))) = false := by
      rw [bne_eq_false_iff_eq, IntKind.wrap_i64]
      omega
    obtain ⟨A7, hA7⟩ : ∃ A7, (if c2 = 48 then some (⟨ad2, 0, none⟩ : Addr) else some ⟨ad2, 0 + 48, none⟩) = A7 := ⟨_, rfl⟩
    have hi8 := hi7.dropAt hA7 (by omega) hc2
    rw [show m - 48 = n by omega] at hi8
    rw [show (U.drop 48) = xs from hUr.out] at hi8
    have hd3 := fun l : Later w7 => (hi8.later l).str (c2 - 48)
    rw [Nat.zero_add] at hA7
    have hkm : (48 : Int) ≤ (m : Int) := by omega
    have hmk : m - 48 = n := by omega
    have hkc : 48 ≤ c2 := by omega
    clear hml
    replace hB7 := hide hB7
    replace hg7 := hide hg7
    replace hx7 := hide hx7
    replace hi7 := hide hi7
    replace hgp := hide hgp
    replace hi8 := hide hi8
    go_upto_region 11 with fail
    refine wp_region_L (by as_aux_lemma => kernel_rfl) ?_
    refine wpE_seg 0 34 (fuel := 0) (by as_aux_lemma => kernel_rfl) (fun d _ _ _ _ h => by cases d <;> exact h) (by as_aux_lemma => kernel_rfl) (by as_aux_lemma => kernel_rfl) ?_
    simp only [List.drop_zero, List.take_succ_cons, List.take_zero]
    iterate 13 (refine wpQE_step (fun K hK => ?_); go_simp; refine hK _ ?_; clear hK K)
    refine wpQE_val (.agg y) rfl (fun l => run_ldw l.w _ 58 (.tmp 14) rfl w6.heap.size rfl y _ (blk_below l.hb hz7 hgp.out) Try.underlying58 rfl (by rw [size_pk, hys.out])) ?_
    dsimp only [Act.put]
    iterate 8 (refine wpQE_step (fun K hK => ?_); go_simp; refine hK _ ?_; clear hK K)
    refine wpQE_val (.bool false) rfl (fun l => neq_pk true 17 true shi slo true dhi dlo sp dp ttl 0 false 0 false 0 0 false 0 0 0 0 m _ (.tmp 89) (.tmp 97) rfl (by rw [← show pkA true 17 shi slo dhi dlo sp dp ttl 0 m = y from hy.out]; rfl) rfl l.w) ?_
    dsimp only [Act.put]
    iterate 11 (refine wpQE_step (fun K hK => ?_); go_simp; refine hK _ ?_; clear hK K)
    refine wpQE_nil ?_
    refine wpE_done (by as_aux_lemma => kernel_rfl) (fun w8 hb8 => ?_) 0
    have hB8 := hB7.out.trans (hb8.mono hB7.out.size)
    clear hb8 hd1 hd2 hd3
    replace hB8 := hide hB8
    go_wp2_with fail
    refine (awake_any _).mono ?_
    rintro e w9 ⟨rfl, hb9⟩
    have hB9 := hB8.out.trans (hb9.mono hB8.out.size)
    clear hb9
    replace hB9 := hide hB9
    go_wp2_with fail
    go_ret
    exact ⟨rfl, hB9.out⟩
end Pkt
end Go.Proofs.Ytdmgbngdpjcliaa
