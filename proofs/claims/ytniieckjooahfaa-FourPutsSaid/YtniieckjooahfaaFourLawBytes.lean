/- The law's bytes of a header and what is behind it, by contract. Conditions: a header that may be, options of at most 40 bytes, at most 300 bytes behind it. -/
import Derived.Test.YtniieckjooahfaaFourHead
import Derived.Test.YtniieckjooahfaaRegionF
import Derived.Test.YtniieckjooahfaaSet
import Derived.Test.YtniieckjooahfaaRef04
import Derived.Test.YtniieckjooahfaaBits
namespace Go.Proofs.Ytniieckjooahfaa
open Go.RowKit Go.ChangeShapes Go.WideShapes Go.ChangeAt Go.Deep
namespace Four
/-- A header's bytes, the check still 0. -/
def hdB0 (tos id fl ttl proto slo dlo : Nat) (os : List UInt8) (pl : Nat) : List UInt8 :=
  (((((([UInt8.ofNat (64 + (20 + os.length) / 4), UInt8.ofNat tos] ++ beB (20 + os.length + pl) 2) ++ beB id 2) ++ beB fl 2) ++ [UInt8.ofNat ttl, UInt8.ofNat proto, 0, 0]) ++ beB slo 4) ++ beB dlo 4) ++ os
theorem hdB0_length (tos id fl ttl proto slo dlo : Nat) (os : List UInt8) (pl : Nat) : (hdB0 tos id fl ttl proto slo dlo os pl).length = 20 + os.length := by
  simp [hdB0, beB_length]; omega
/-- .. with its check. -/
def hdB (tos id fl ttl proto slo dlo : Nat) (os : List UInt8) (pl : Nat) : List UInt8 :=
  setB (hdB0 tos id fl ttl proto slo dlo os pl) 10 (beB (65535 - Sum.ones (Sum.tot false (hdB0 tos id fl ttl proto slo dlo os pl))) 2)
theorem ofNat_mod (x : Nat) : UInt8.ofNat (x % 256) = UInt8.ofNat x := by
  apply UInt8.toNat_inj.1
  simp
theorem beB_four (N : Nat) : beB N 4 = beB (N / 65536) 2 ++ beB (N % 65536) 2 := by
  simp only [beB, List.cons_append, List.nil_append]
  have h1 : UInt8.ofNat (N % 65536 / 256 ^ 1) = UInt8.ofNat (N / 256 ^ 1) := by
    rw [← ofNat_mod (N % 65536 / 256 ^ 1), ← ofNat_mod (N / 256 ^ 1)]; congr 1; omega
  have h2 : UInt8.ofNat (N % 65536 / 256 ^ 0) = UInt8.ofNat (N / 256 ^ 0) := by
    rw [← ofNat_mod (N % 65536 / 256 ^ 0), ← ofNat_mod (N / 256 ^ 0)]; congr 1; omega
  rw [h1, h2]
  have h3 : N / 65536 / 256 ^ 1 = N / 256 ^ 3 := by omega
  have h4 : N / 65536 / 256 ^ 0 = N / 256 ^ 2 := by omega
  rw [h3, h4]
theorem hdB_set (tos id fl ttl proto slo dlo : Nat) (os : List UInt8) (pl C : Nat) (hC : 65535 - Sum.ones (Sum.tot false (hdB0 tos id fl ttl proto slo dlo os pl)) = C) : hdB tos id fl ttl proto slo dlo os pl = ((hdB0 tos id fl ttl proto slo dlo os pl).set 10 (UInt8.ofNat (C / 256))).set 11 (UInt8.ofNat C) := by
  unfold hdB
  rw [hC]
  simp [setB, hdB0, beB]
def flI (df mf : Bool) (frag : Nat) : Int := (frag : Int) + (if df then 16384 else 0) + (if mf then 8192 else 0)
set_option maxRecDepth 20000 in
set_option maxHeartbeats 16000000 in
theorem lawBytes_any (tos id : Nat) (df mf : Bool) (frag ttl proto slo dlo fl : Nat) (hfl : flI df mf frag = (fl : Int)) (A : Option Addr) (n c : Nat) (os : List UInt8) (P : Option Addr) (m d : Nat) (ps : List UInt8) (w : World)
    (h1 : tos ≤ 255) (h2 : id ≤ 65535) (h3 : frag ≤ 8191) (h4 : ttl ≤ 255) (h5 : proto ≤ 255) (h6 : slo < 4294967296) (h7 : dlo < 4294967296) (h8 : n ≤ 40)
    (ho : IsB w w.heap.size A n os) (hp : IsB w w.heap.size P m ps) (hm : m ≤ 300) :
    Calls Try.prog 49 #[hdV tos id df mf frag ttl proto false 0 slo false 0 dlo A n c, .slice P m d] w fun e w' => ∃ v, e = .returned v ∧ OwnB w' w.heap.size v (hdB tos id fl ttl proto slo dlo os m ++ ps) ∧ Below w.heap.size w w' := by
  have hno := ho.1
  have hmp := hp.1
  obtain ⟨w2, hw2⟩ : ∃ w2, w.alloc (hdC tos id df mf frag ttl proto false 0 slo false 0 dlo A n c) = w2 := ⟨_, rfl⟩
  have hb2 : Below w.heap.size w w2 := hw2 ▸ (Below.refl _ _).alloc (Nat.le_refl _) _
  unfold hdC at hw2
  have hg2 := hw2 ▸ blk_new w (t := 86) #[.int .i64 tos, .int .i64 id, .bool df, .bool mf, .int .i64 frag, .int .i64 ttl, .int .i64 proto, .bool false, .int .u64 0, .int .u64 slo, .bool false, .int .u64 0, .int .u64 dlo, .slice A n c]
  have hlt2 : w.heap.size < w2.heap.size := by rw [← hw2]; simp
  have ho2 := ho.on hb2
  have hp2 := hp.on hb2
  replace ho := hide ho
  replace hp := hide hp
  replace ho2 := hide ho2
  replace hp2 := hide hp2
  replace hno := hide hno
  replace hmp := hide hmp
  replace hb2 := hide hb2
  have hcg := blk_cell hg2
  have hwf : flI df mf frag ≤ 65535 := by unfold flI; split <;> split <;> omega
  rw [hfl] at hwf
  unfold flI at hfl
  rcases df with _ | _ <;> rcases mf with _ | _ <;> simp only [Bool.false_eq_true, if_false, if_true, Int.add_zero] at hfl
  all_goals unfold hdV
  case false.false =>
    obtain rfl : frag = fl := by omega
    clear hfl
    replace hg2 := hide hg2
    go_enter Try.func49, Try.ntmps49
    go_wp2_with fail
    clear hw2
    obtain ⟨w3, hw3⟩ : ∃ w3, w2.drew = w3 := ⟨_, rfl⟩
    have hb3 : Below w2.heap.size w2 w3 := hw3 ▸ (Below.refl _ _).drew
    have hz3 : w3.heap.size = w2.heap.size := hw3 ▸ rfl
    have hg3 := blk_below hb3 hlt2 hg2.out
    have hcl : ∀ (l : From w2.heap.size w3) (o : Nat), l.w.cell? ⟨w.heap.size, o, none⟩ = _ := fun l o => blk_cell (blk_below l.hb hlt2 hg3) o
    refine wp_region_F (Below w2.heap.size) (by kernel_rfl) ?_
    rw [hw3]
    clear hw3
    replace hg3 := hide hg3
    replace hb3 := hide hb3
    refine wpB_seg w2.heap.size 0 7 (fuel := 12) (by kernel_rfl) (fun d _ _ _ _ h => by cases d <;> exact h) (by kernel_rfl) (by kernel_rfl) ?_
    simp only [List.drop_zero, List.take_succ_cons, List.take_zero]
    iterate 7 (refine wpQB_step (fun K hK => ?_); go_simp; refine hK _ ?_; clear hK K)
    refine wpQF_nil ?_
    refine wpB_seg w2.heap.size 8 4 (fuel := 8) (by kernel_rfl) (fun d _ _ _ _ h => by cases d <;> exact h) (by kernel_rfl) (by kernel_rfl) ?_
    simp only [List.drop_succ_cons, List.drop_zero, List.take_succ_cons, List.take_zero]
    iterate 4 (refine wpQB_step (fun K hK => ?_); go_simp; refine hK _ ?_; clear hK K)
    refine wpQF_nil ?_
    refine wpB_seg w2.heap.size 13 2 (fuel := 6) (by kernel_rfl) (fun d _ _ _ _ h => by cases d <;> exact h) (by kernel_rfl) (by kernel_rfl) ?_
    simp only [List.drop_succ_cons, List.drop_zero, List.take_succ_cons, List.take_zero]
    iterate 2 (refine wpQB_step (fun K hK => ?_); go_simp; refine hK _ ?_; clear hK K)
    refine wpQF_nil ?_
    refine wpB_seg w2.heap.size 16 1 (fuel := 5) (by kernel_rfl) (fun d _ _ _ _ h => by cases d <;> exact h) (by kernel_rfl) (by kernel_rfl) ?_
    simp only [List.drop_succ_cons, List.drop_zero, List.take_succ_cons, List.take_zero]
    iterate 1 (refine wpQB_step (fun K hK => ?_); go_simp; refine hK _ ?_; clear hK K)
    refine wpQF_nil ?_
    refine wpF_step 7 (fuel := 4) rfl (by kernel_rfl) (fun K hK => ?_)
    go_simp
    obtain ⟨sz, hsz⟩ : ∃ sz, (20 + n) / 4 = sz := ⟨_, rfl⟩
    have q1 : IntKind.i64.wrap ((20 + (n : Int)).tdiv 4) = (sz : Int) := by
      rw [Int.tdiv_eq_ediv_of_nonneg (by omega)]
      rw [wraps62 _ (by omega) (by omega)]
      omega
    have q2 : IntKind.i64.wrap (64 + (sz : Int)) = ((64 + sz : Nat) : Int) := by rw [wraps62 _ (by omega) (by omega)]; omega
    have q3 : IntKind.u8.wrap ((64 + sz : Nat) : Int) = ((64 + sz : Nat) : Int) := wraps_u8 _ (by omega) (by omega)
    have q4 : IntKind.u8.wrap (tos : Int) = (tos : Int) := wraps_u8 _ (by omega) (by omega)
    have q5 : IntKind.i64.wrap (20 + (n : Int) + (m : Int)) = ((20 + n + m : Nat) : Int) := by rw [wraps62 _ (by omega) (by omega)]; omega
    rw [q1, q2, q3, q4, q5]
    have hown0 : OwnB (w3.alloc (.cells #[.int .u8 ((64 + sz : Nat) : Int), .int .u8 (tos : Int)] 5)) w2.heap.size (.slice (some ⟨w3.heap.size, 0, none⟩) 2 2) [UInt8.ofNat (64 + sz), UInt8.ofNat tos] :=
      OwnB.litv w3 w2.heap.size _ _ 2 (by simp only [List.map_cons, List.map_nil]; rw [u8v_nat _ (by omega), u8v_nat _ (by omega)]) rfl (by omega) (by omega)
    rw [hz3] at hown0
    obtain ⟨w4, hw4⟩ : ∃ w4, w3.alloc (.cells #[.int .u8 ((64 + sz : Nat) : Int), .int .u8 (tos : Int)] 5) = w4 := ⟨_, rfl⟩
    have hb4 : Below w2.heap.size w3 w4 := hw4 ▸ (Below.refl _ _).alloc (by omega) _
    have hz4 : w2.heap.size ≤ w4.heap.size := by rw [← hw4]; simp; omega
    rw [hw4] at hown0 ⊢
    clear hw4 q1 q2 q3 q4 q5
    replace hsz := hide hsz
    replace hown0 := hide hown0
    refine hK _ _ hb4 ?_
    clear hK K
    refine wpF_step 12 (fuel := 3) rfl (by kernel_rfl) (fun K hK => ?_)
    go_simp
    go_at_call 92
    refine (two_any w2.heap.size _ _ (20 + n + m) _ rfl _ hown0.out hz4 (by omega) (by simp)).mono ?_
    rintro e w5 ⟨v5, rfl, hown5, hg5⟩
    have hb5 := hg5.below hown0.out hz4
    have hz5 := hb5.size
    replace hown5 := hide hown5
    refine hK _ _ hb5 ?_
    clear hK K
    refine wpF_step 15 (fuel := 2) rfl (by kernel_rfl) (fun K hK => ?_)
    go_simp
    go_at_call 92
    refine (two_any w2.heap.size _ _ id _ rfl _ hown5.out (Nat.le_trans hz4 hz5) (by omega) (by simp [beB_length])).mono ?_
    rintro e w6 ⟨v6, rfl, hown6, hg6⟩
    have hb6 := hg6.below hown5.out (Nat.le_trans hz4 hz5)
    have hz6 := hb6.size
    replace hown6 := hide hown6
    refine hK _ _ hb6 ?_
    clear hK K
    refine wpF_step 17 (fuel := 1) rfl (by kernel_rfl) (fun K hK => ?_)
    go_simp
    go_at_call 92
    refine (two_any w2.heap.size _ _ frag _ rfl _ hown6.out (Nat.le_trans hz4 (Nat.le_trans hz5 hz6)) (by omega) (by simp [beB_length])).mono ?_
    rintro e w7 ⟨v7, rfl, hown7, hg7⟩
    have hb7 := hg7.below hown6.out (Nat.le_trans hz4 (Nat.le_trans hz5 hz6))
    have hz7 := hb7.size
    replace hown7 := hide hown7
    refine hK _ _ hb7 ?_
    clear hK K
    refine wpF_step 18 (fuel := 0) rfl (by kernel_rfl) (fun K hK => ?_)
    go_simp
    refine hK _ _ (Below.refl _ _) ?_
    clear hK K
    refine wpF_done (by kernel_rfl) ?_ 0
    have hb27 : Below w2.heap.size w2 w7 := hb3.out.trans (hb4.trans (hb5.trans (hb6.trans hb7)))
    have hz27 : w2.heap.size ≤ w7.heap.size := hb27.size
    have hg7' := blk_below hb27 hlt2 hg2.out
    have hcg7 := blk_cell hg7'
    clear hcl hb4 hb5 hb6 hb7 hz4 hz5 hz6 hz7 hg5 hg6 hg7 hown0 hown5 hown6 hg3 hb3 hcg
    replace hg7' := hide hg7'
    replace hb27 := hide hb27
    have hv4 : [Value.int .u8 (ttl : Int), .int .u8 (proto : Int), .int .u8 0, .int .u8 0] = ([UInt8.ofNat ttl, UInt8.ofNat proto, 0, 0] : List UInt8).map u8v := by
      simp only [List.map_cons, List.map_nil]
      rw [u8v_nat _ (by omega), u8v_nat _ (by omega)]
      rfl
    replace hv4 := hide hv4
    go_wp2_with (at_builtin; refine wpl_lit_bv rfl (.tmp 41) (.tmp 48) rfl w2.heap.size _ _ [UInt8.ofNat ttl, UInt8.ofNat proto, 0, 0] _ _ rfl rfl ?_ ?_ hown7.out ?_ ?_ ?_)
    · exact hv4.out
    · rfl
    · exact hz27
    · simp [beB_length]
    intro v8 w8 hown8 hg8
    have hb8 := hg8.below hown7.out hz27
    have hz28 : w2.heap.size ≤ w8.heap.size := Nat.le_trans hz27 hb8.size
    have hb28 : Below w2.heap.size w2 w8 := hb27.out.trans hb8
    have hg8' := blk_below hb28 hlt2 hg2.out
    obtain ⟨w9, hw9⟩ : ∃ w9, w8.drew = w9 := ⟨_, rfl⟩
    have hb29 : Below w2.heap.size w2 w9 := hb28.trans (hw9 ▸ (Below.refl _ _).drew)
    have hown9 : OwnB w9 w2.heap.size v8 _ := hown8.below (hw9 ▸ (Below.refl _ _).drew)
    have hz29 := hb29.size
    have hg9' := blk_below hb29 hlt2 hg2.out
    have hcl9 : ∀ (l : From w2.heap.size w9) (o : Nat), l.w.cell? ⟨w.heap.size, o, none⟩ = _ := fun l o => blk_cell (blk_below l.hb hlt2 hg9') o
    clear hcg7 hb8 hg8 hg8' hown7 hg7'
    replace hown8 := hide hown8
    replace hown9 := hide hown9
    replace hb28 := hide hb28
    replace hb29 := hide hb29
    replace hg9' := hide hg9'
    go_wp2_with fail
    refine wp_region_F (Below w2.heap.size) (by kernel_rfl) ?_
    rw [hw9]
    clear hw9
    refine wpB_seg w2.heap.size 0 6 (fuel := 8) (by kernel_rfl) (fun d _ _ _ _ h => by cases d <;> exact h) (by kernel_rfl) (by kernel_rfl) ?_
    simp only [List.drop_zero, List.take_succ_cons, List.take_zero]
    iterate 6 (refine wpQB_step (fun K hK => ?_); go_simp; refine hK _ ?_; clear hK K)
    refine wpQF_nil ?_
    refine wpB_seg w2.heap.size 7 5 (fuel := 3) (by kernel_rfl) (fun d _ _ _ _ h => by cases d <;> exact h) (by kernel_rfl) (by kernel_rfl) ?_
    simp only [List.drop_succ_cons, List.drop_zero, List.take_succ_cons, List.take_zero]
    iterate 5 (refine wpQB_step (fun K hK => ?_); go_simp; refine hK _ ?_; clear hK K)
    refine wpQF_nil ?_
    refine wpF_step 6 (fuel := 2) rfl (by kernel_rfl) (fun K hK => ?_)
    go_simp
    go_at_call 92
    refine (two_any w2.heap.size _ _ (slo / 65536) _ ?_ _ hown9.out hz29 (by omega) (by simp [beB_length])).mono ?_
    · rw [wrapsu64 _ (by omega) (by omega), wraps62 _ (by omega) (by omega)]
      omega
    rintro e w10 ⟨v10, rfl, hown10, hg10⟩
    have hb10 := hg10.below hown9.out hz29
    have hz10 := Nat.le_trans hz29 hb10.size
    replace hown10 := hide hown10
    refine hK _ _ hb10 ?_
    clear hK K
    refine wpF_step 12 (fuel := 1) rfl (by kernel_rfl) (fun K hK => ?_)
    go_simp
    go_at_call 92
    refine (two_any w2.heap.size _ _ (slo % 65536) _ ?_ _ hown10.out hz10 (by omega) (by simp [beB_length])).mono ?_
    · rw [Int.tmod_eq_emod_of_nonneg (by omega), wraps62 _ (by omega) (by omega)]
      omega
    rintro e w11 ⟨v11, rfl, hown11, hg11⟩
    have hb11 := hg11.below hown10.out hz10
    have hz11 := Nat.le_trans hz10 hb11.size
    refine hK _ _ hb11 ?_
    clear hK K
    refine wpF_step 13 (fuel := 0) rfl (by kernel_rfl) (fun K hK => ?_)
    go_simp
    refine hK _ _ (Below.refl _ _) ?_
    clear hK K
    refine wpF_done (by kernel_rfl) ?_ 0
    rw [List.append_assoc _ (beB (slo / 65536) 2) (beB (slo % 65536) 2), ← beB_four] at hown11
    have hb2b : Below w2.heap.size w2 w11 := hb29.out.trans (hb10.trans hb11)
    obtain ⟨wc, hwc⟩ : ∃ wc, w11.drew = wc := ⟨_, rfl⟩
    have hb2c : Below w2.heap.size w2 wc := hb2b.trans (hwc ▸ (Below.refl _ _).drew)
    have hownc : OwnB wc w2.heap.size v11 _ := hown11.below (hwc ▸ (Below.refl _ _).drew)
    have hz2c := hb2c.size
    have hgc := blk_below hb2c hlt2 hg2.out
    have hclc : ∀ (l : From w2.heap.size wc) (o : Nat), l.w.cell? ⟨w.heap.size, o, none⟩ = _ := fun l o => blk_cell (blk_below l.hb hlt2 hgc) o
    clear hcl9 hb10 hb11 hg10 hg11 hown10 hown11 hown9 hown8 hz10 hz11 hg9'
    replace hownc := hide hownc
    replace hb2b := hide hb2b
    replace hb2c := hide hb2c
    replace hgc := hide hgc
    go_wp2_with fail
    refine wp_region_F (Below w2.heap.size) (by kernel_rfl) ?_
    rw [hwc]
    clear hwc
    refine wpB_seg w2.heap.size 0 6 (fuel := 8) (by kernel_rfl) (fun d _ _ _ _ h => by cases d <;> exact h) (by kernel_rfl) (by kernel_rfl) ?_
    simp only [List.drop_zero, List.take_succ_cons, List.take_zero]
    iterate 6 (refine wpQB_step (fun K hK => ?_); go_simp; refine hK _ ?_; clear hK K)
    refine wpQF_nil ?_
    refine wpB_seg w2.heap.size 7 5 (fuel := 3) (by kernel_rfl) (fun d _ _ _ _ h => by cases d <;> exact h) (by kernel_rfl) (by kernel_rfl) ?_
    simp only [List.drop_succ_cons, List.drop_zero, List.take_succ_cons, List.take_zero]
    iterate 5 (refine wpQB_step (fun K hK => ?_); go_simp; refine hK _ ?_; clear hK K)
    refine wpQF_nil ?_
    refine wpF_step 6 (fuel := 2) rfl (by kernel_rfl) (fun K hK => ?_)
    go_simp
    go_at_call 92
    refine (two_any w2.heap.size _ _ (dlo / 65536) _ ?_ _ hownc.out hz2c (by omega) (by simp [beB_length])).mono ?_
    · rw [wrapsu64 _ (by omega) (by omega), wraps62 _ (by omega) (by omega)]
      omega
    rintro e w12 ⟨v12, rfl, hown12, hg12⟩
    have hb12 := hg12.below hownc.out hz2c
    have hz12 := Nat.le_trans hz2c hb12.size
    replace hown12 := hide hown12
    refine hK _ _ hb12 ?_
    clear hK K
    refine wpF_step 12 (fuel := 1) rfl (by kernel_rfl) (fun K hK => ?_)
    go_simp
    go_at_call 92
    refine (two_any w2.heap.size _ _ (dlo % 65536) _ ?_ _ hown12.out hz12 (by omega) (by simp [beB_length])).mono ?_
    · rw [Int.tmod_eq_emod_of_nonneg (by omega), wraps62 _ (by omega) (by omega)]
      omega
    rintro e w13 ⟨v13, rfl, hown13, hg13⟩
    have hb13 := hg13.below hown12.out hz12
    have hz13 := Nat.le_trans hz12 hb13.size
    refine hK _ _ hb13 ?_
    clear hK K
    refine wpF_step 13 (fuel := 0) rfl (by kernel_rfl) (fun K hK => ?_)
    go_simp
    refine hK _ _ (Below.refl _ _) ?_
    clear hK K
    refine wpF_done (by kernel_rfl) ?_ 0
    rw [List.append_assoc _ (beB (dlo / 65536) 2) (beB (dlo % 65536) 2), ← beB_four] at hown13
    have hb2d : Below w2.heap.size w2 w13 := hb2c.out.trans (hb12.trans hb13)
    have hgd := blk_below hb2d hlt2 hg2.out
    have hcgd := blk_cell hgd
    have hod := ho2.out.below hb2d
    clear hclc hb12 hb13 hg12 hg13 hown12 hownc hz12
    replace hown13 := hide hown13
    replace hb2d := hide hb2d
    replace hod := hide hod
    replace hgd := hide hgd
    go_wp2_with (at_builtin; refine wpl_src_bv rfl (.tmp 76) (.tmp 78) rfl w2.heap.size _ _ os _ _ _ w2.heap.size rfl rfl hown13.out hod.out ?_ ?_ ?_)
    · exact hz13
    · simp [beB_length]; omega
    intro v14 w14 hown14 hg14
    have hb14 := hg14.below hown13.out hz13
    have hz14 := Nat.le_trans hz13 hb14.size
    have hlen : (hdB0 tos id frag ttl proto slo dlo os m).length = 20 + n := by rw [hdB0_length, hno.out]
    have hown14 : OwnB w14 w2.heap.size v14 (hdB0 tos id frag ttl proto slo dlo os m) := by
      unfold hdB0
      rw [hno.out, hsz.out]
      simpa using hown14
    obtain ⟨A14, c14, rfl, hc14, hm14, hi14⟩ := hown14.form
    rw [hlen] at hi14 hc14 hown14 ⊢
    have hb2e : Below w2.heap.size w2 w14 := hb2d.out.trans hb14
    clear hcgd hg14 hown13
    replace hown14 := hide hown14
    replace hi14 := hide hi14
    replace hlen := hide hlen
    replace hb2e := hide hb2e
    go_wp2_with fail
    refine (Sum.refCheck_any _ _ _ (hdB0 tos id frag ttl proto slo dlo os m) _ hi14.out (by omega)).mono ?_
    rintro e w15 ⟨rfl, hb15⟩
    obtain ⟨C, hC⟩ : ∃ C, 65535 - Sum.ones (Sum.tot false (hdB0 tos id frag ttl proto slo dlo os m)) = C := ⟨_, rfl⟩
    rw [hC]
    have hCl : C ≤ 65535 := by omega
    have hown15 := hown14.out.below hb15
    have hi15 := hown15.reads.2.2.2
    obtain ⟨g3, cur, rfl, hg3b, hh3, hcl3, htk3, _, _, hl3⟩ := hown15.row (by omega)
    obtain ⟨_, _, _, hc10⟩ := hi15.byteAt (i := 10) (by omega)
    obtain ⟨_, _, _, hc11⟩ := hi15.byteAt (i := 11) (by omega)
    rw [Nat.zero_add] at hc10 hc11
    have hz10 := blk_free hh3 10
    have hz11 := blk_free hh3 11
    have i10 : (10 : Int) < ((20 + n : Nat) : Int) := by omega
    have i11 : (11 : Int) < ((20 + n : Nat) : Int) := by omega
    have hb2f : Below w2.heap.size w2 w15 := hb2e.out.trans (hb15.mono hz14)
    clear htk3
    replace hh3 := hide hh3
    replace hi15 := hide hi15
    replace hown15 := hide hown15
    replace hb15 := hide hb15
    replace hb2f := hide hb2f
    replace hcl3 := hide hcl3
    replace hl3 := hide hl3
    replace hC := hide hC
    have hp15 := hp2.out.below hb2f.out
    replace hp15 := hide hp15
    have hsets : ∀ a b, Below w2.heap.size w15 ((w15.setCell ⟨g3, 10, none⟩ a).setCell ⟨g3, 11, none⟩ b) := fun a b => ((Below.refl _ _).setCell (p := ⟨g3, 10, none⟩) hg3b a).setCell (p := ⟨g3, 11, none⟩) hg3b b
    replace hsets := hide hsets
    have hz15 := hb2f.out.size
    go_wp2_with (at_builtin; refine wpl_src_bv rfl (.tmp 92) (.tmp 93) rfl w2.heap.size _ (hdB tos id frag ttl proto slo dlo os m) ps _ _ _ w2.heap.size rfl rfl ?_ ?_ ?_ ?_ ?_)
    · show OwnB _ _ (.slice (some ⟨g3, 0, none⟩) (20 + n) c14) _
      have h1 := (hown15.out.store 10 (UInt8.ofNat (C / 256))).store 11 (UInt8.ofNat C)
      rw [u8v_nat _ (show C / 256 ≤ 255 by omega), ← u8v_mod] at h1
      rw [hdB_set _ _ _ _ _ _ _ _ _ _ hC.out]
      exact h1
    · exact hp15.out.below (hsets.out _ _)
    · exact Nat.le_trans hz15 (hsets.out _ _).size
    · rw [hdB_set _ _ _ _ _ _ _ _ _ _ hC.out]
      simp [hlen.out]
      omega
    intro v16 w16 hown16 hg16
    have hb16 := hg16.below (base := w2.heap.size) (xs := hdB tos id frag ttl proto slo dlo os m) (by
      show OwnB _ _ (.slice (some ⟨g3, 0, none⟩) (20 + n) c14) _
      have h1 := (hown15.out.store 10 (UInt8.ofNat (C / 256))).store 11 (UInt8.ofNat C)
      rw [u8v_nat _ (show C / 256 ≤ 255 by omega), ← u8v_mod] at h1
      rw [hdB_set _ _ _ _ _ _ _ _ _ _ hC.out]
      exact h1) (Nat.le_trans hz15 (hsets.out _ _).size)
    go_wp2
    go_ret
    exact ⟨_, rfl, hown16.weaken (Nat.le_of_lt hlt2), hb2.out.trans ((hb2f.out.trans ((hsets.out _ _).trans hb16)).mono (Nat.le_of_lt hlt2))⟩
  case false.true =>
    replace hg2 := hide hg2
    go_enter Try.func49, Try.ntmps49
    go_wp2_with fail
    clear hw2
    obtain ⟨w3, hw3⟩ : ∃ w3, w2.drew = w3 := ⟨_, rfl⟩
    have hb3 : Below w2.heap.size w2 w3 := hw3 ▸ (Below.refl _ _).drew
    have hz3 : w3.heap.size = w2.heap.size := hw3 ▸ rfl
    have hg3 := blk_below hb3 hlt2 hg2.out
    have hcl : ∀ (l : From w2.heap.size w3) (o : Nat), l.w.cell? ⟨w.heap.size, o, none⟩ = _ := fun l o => blk_cell (blk_below l.hb hlt2 hg3) o
    refine wp_region_F (Below w2.heap.size) (by kernel_rfl) ?_
    rw [hw3]
    clear hw3
    replace hg3 := hide hg3
    replace hb3 := hide hb3
    refine wpB_seg w2.heap.size 0 7 (fuel := 12) (by kernel_rfl) (fun d _ _ _ _ h => by cases d <;> exact h) (by kernel_rfl) (by kernel_rfl) ?_
    simp only [List.drop_zero, List.take_succ_cons, List.take_zero]
    iterate 7 (refine wpQB_step (fun K hK => ?_); go_simp; refine hK _ ?_; clear hK K)
    refine wpQF_nil ?_
    refine wpB_seg w2.heap.size 8 4 (fuel := 8) (by kernel_rfl) (fun d _ _ _ _ h => by cases d <;> exact h) (by kernel_rfl) (by kernel_rfl) ?_
    simp only [List.drop_succ_cons, List.drop_zero, List.take_succ_cons, List.take_zero]
    iterate 4 (refine wpQB_step (fun K hK => ?_); go_simp; refine hK _ ?_; clear hK K)
    refine wpQF_nil ?_
    refine wpB_seg w2.heap.size 13 2 (fuel := 6) (by kernel_rfl) (fun d _ _ _ _ h => by cases d <;> exact h) (by kernel_rfl) (by kernel_rfl) ?_
    simp only [List.drop_succ_cons, List.drop_zero, List.take_succ_cons, List.take_zero]
    iterate 2 (refine wpQB_step (fun K hK => ?_); go_simp; refine hK _ ?_; clear hK K)
    refine wpQF_nil ?_
    refine wpB_seg w2.heap.size 16 1 (fuel := 5) (by kernel_rfl) (fun d _ _ _ _ h => by cases d <;> exact h) (by kernel_rfl) (by kernel_rfl) ?_
    simp only [List.drop_succ_cons, List.drop_zero, List.take_succ_cons, List.take_zero]
    iterate 1 (refine wpQB_step (fun K hK => ?_); go_simp; refine hK _ ?_; clear hK K)
    refine wpQF_nil ?_
    refine wpF_step 7 (fuel := 4) rfl (by kernel_rfl) (fun K hK => ?_)
    go_simp
    obtain ⟨sz, hsz⟩ : ∃ sz, (20 + n) / 4 = sz := ⟨_, rfl⟩
    have q1 : IntKind.i64.wrap ((20 + (n : Int)).tdiv 4) = (sz : Int) := by
      rw [Int.tdiv_eq_ediv_of_nonneg (by omega)]
      rw [wraps62 _ (by omega) (by omega)]
      omega
    have q2 : IntKind.i64.wrap (64 + (sz : Int)) = ((64 + sz : Nat) : Int) := by rw [wraps62 _ (by omega) (by omega)]; omega
    have q3 : IntKind.u8.wrap ((64 + sz : Nat) : Int) = ((64 + sz : Nat) : Int) := wraps_u8 _ (by omega) (by omega)
    have q4 : IntKind.u8.wrap (tos : Int) = (tos : Int) := wraps_u8 _ (by omega) (by omega)
    have q5 : IntKind.i64.wrap (20 + (n : Int) + (m : Int)) = ((20 + n + m : Nat) : Int) := by rw [wraps62 _ (by omega) (by omega)]; omega
    rw [q1, q2, q3, q4, q5]
    have hown0 : OwnB (w3.alloc (.cells #[.int .u8 ((64 + sz : Nat) : Int), .int .u8 (tos : Int)] 5)) w2.heap.size (.slice (some ⟨w3.heap.size, 0, none⟩) 2 2) [UInt8.ofNat (64 + sz), UInt8.ofNat tos] :=
      OwnB.litv w3 w2.heap.size _ _ 2 (by simp only [List.map_cons, List.map_nil]; rw [u8v_nat _ (by omega), u8v_nat _ (by omega)]) rfl (by omega) (by omega)
    rw [hz3] at hown0
    obtain ⟨w4, hw4⟩ : ∃ w4, w3.alloc (.cells #[.int .u8 ((64 + sz : Nat) : Int), .int .u8 (tos : Int)] 5) = w4 := ⟨_, rfl⟩
    have hb4 : Below w2.heap.size w3 w4 := hw4 ▸ (Below.refl _ _).alloc (by omega) _
    have hz4 : w2.heap.size ≤ w4.heap.size := by rw [← hw4]; simp; omega
    rw [hw4] at hown0 ⊢
    clear hw4 q1 q2 q3 q4 q5
    replace hsz := hide hsz
    replace hown0 := hide hown0
    refine hK _ _ hb4 ?_
    clear hK K
    refine wpF_step 12 (fuel := 3) rfl (by kernel_rfl) (fun K hK => ?_)
    go_simp
    go_at_call 92
    refine (two_any w2.heap.size _ _ (20 + n + m) _ rfl _ hown0.out hz4 (by omega) (by simp)).mono ?_
    rintro e w5 ⟨v5, rfl, hown5, hg5⟩
    have hb5 := hg5.below hown0.out hz4
    have hz5 := hb5.size
    replace hown5 := hide hown5
    refine hK _ _ hb5 ?_
    clear hK K
    refine wpF_step 15 (fuel := 2) rfl (by kernel_rfl) (fun K hK => ?_)
    go_simp
    go_at_call 92
    refine (two_any w2.heap.size _ _ id _ rfl _ hown5.out (Nat.le_trans hz4 hz5) (by omega) (by simp [beB_length])).mono ?_
    rintro e w6 ⟨v6, rfl, hown6, hg6⟩
    have hb6 := hg6.below hown5.out (Nat.le_trans hz4 hz5)
    have hz6 := hb6.size
    replace hown6 := hide hown6
    refine hK _ _ hb6 ?_
    clear hK K
    refine wpF_step 17 (fuel := 1) rfl (by kernel_rfl) (fun K hK => ?_)
    go_simp
    go_at_call 92
    refine (two_any w2.heap.size _ _ fl _ rfl _ hown6.out (Nat.le_trans hz4 (Nat.le_trans hz5 hz6)) (by omega) (by simp [beB_length])).mono ?_
    rintro e w7 ⟨v7, rfl, hown7, hg7⟩
    have hb7 := hg7.below hown6.out (Nat.le_trans hz4 (Nat.le_trans hz5 hz6))
    have hz7 := hb7.size
    replace hown7 := hide hown7
    refine hK _ _ hb7 ?_
    clear hK K
    refine wpF_step 18 (fuel := 0) rfl (by kernel_rfl) (fun K hK => ?_)
    go_simp
    refine hK _ _ (Below.refl _ _) ?_
    clear hK K
    refine wpF_done (by kernel_rfl) ?_ 0
    have hb27 : Below w2.heap.size w2 w7 := hb3.out.trans (hb4.trans (hb5.trans (hb6.trans hb7)))
    have hz27 : w2.heap.size ≤ w7.heap.size := hb27.size
    have hg7' := blk_below hb27 hlt2 hg2.out
    have hcg7 := blk_cell hg7'
    clear hcl hb4 hb5 hb6 hb7 hz4 hz5 hz6 hz7 hg5 hg6 hg7 hown0 hown5 hown6 hg3 hb3 hcg
    replace hg7' := hide hg7'
    replace hb27 := hide hb27
    have hv4 : [Value.int .u8 (ttl : Int), .int .u8 (proto : Int), .int .u8 0, .int .u8 0] = ([UInt8.ofNat ttl, UInt8.ofNat proto, 0, 0] : List UInt8).map u8v := by
      simp only [List.map_cons, List.map_nil]
      rw [u8v_nat _ (by omega), u8v_nat _ (by omega)]
      rfl
    replace hv4 := hide hv4
    go_wp2_with (at_builtin; refine wpl_lit_bv rfl (.tmp 41) (.tmp 48) rfl w2.heap.size _ _ [UInt8.ofNat ttl, UInt8.ofNat proto, 0, 0] _ _ rfl rfl ?_ ?_ hown7.out ?_ ?_ ?_)
    · exact hv4.out
    · rfl
    · exact hz27
    · simp [beB_length]
    intro v8 w8 hown8 hg8
    have hb8 := hg8.below hown7.out hz27
    have hz28 : w2.heap.size ≤ w8.heap.size := Nat.le_trans hz27 hb8.size
    have hb28 : Below w2.heap.size w2 w8 := hb27.out.trans hb8
    have hg8' := blk_below hb28 hlt2 hg2.out
    obtain ⟨w9, hw9⟩ : ∃ w9, w8.drew = w9 := ⟨_, rfl⟩
    have hb29 : Below w2.heap.size w2 w9 := hb28.trans (hw9 ▸ (Below.refl _ _).drew)
    have hown9 : OwnB w9 w2.heap.size v8 _ := hown8.below (hw9 ▸ (Below.refl _ _).drew)
    have hz29 := hb29.size
    have hg9' := blk_below hb29 hlt2 hg2.out
    have hcl9 : ∀ (l : From w2.heap.size w9) (o : Nat), l.w.cell? ⟨w.heap.size, o, none⟩ = _ := fun l o => blk_cell (blk_below l.hb hlt2 hg9') o
    clear hcg7 hb8 hg8 hg8' hown7 hg7'
    replace hown8 := hide hown8
    replace hown9 := hide hown9
    replace hb28 := hide hb28
    replace hb29 := hide hb29
    replace hg9' := hide hg9'
    go_wp2_with fail
    refine wp_region_F (Below w2.heap.size) (by kernel_rfl) ?_
    rw [hw9]
    clear hw9
    refine wpB_seg w2.heap.size 0 6 (fuel := 8) (by kernel_rfl) (fun d _ _ _ _ h => by cases d <;> exact h) (by kernel_rfl) (by kernel_rfl) ?_
    simp only [List.drop_zero, List.take_succ_cons, List.take_zero]
    iterate 6 (refine wpQB_step (fun K hK => ?_); go_simp; refine hK _ ?_; clear hK K)
    refine wpQF_nil ?_
    refine wpB_seg w2.heap.size 7 5 (fuel := 3) (by kernel_rfl) (fun d _ _ _ _ h => by cases d <;> exact h) (by kernel_rfl) (by kernel_rfl) ?_
    simp only [List.drop_succ_cons, List.drop_zero, List.take_succ_cons, List.take_zero]
    iterate 5 (refine wpQB_step (fun K hK => ?_); go_simp; refine hK _ ?_; clear hK K)
    refine wpQF_nil ?_
    refine wpF_step 6 (fuel := 2) rfl (by kernel_rfl) (fun K hK => ?_)
    go_simp
    go_at_call 92
    refine (two_any w2.heap.size _ _ (slo / 65536) _ ?_ _ hown9.out hz29 (by omega) (by simp [beB_length])).mono ?_
    · rw [wrapsu64 _ (by omega) (by omega), wraps62 _ (by omega) (by omega)]
      omega
    rintro e w10 ⟨v10, rfl, hown10, hg10⟩
    have hb10 := hg10.below hown9.out hz29
    have hz10 := Nat.le_trans hz29 hb10.size
    replace hown10 := hide hown10
    refine hK _ _ hb10 ?_
    clear hK K
    refine wpF_step 12 (fuel := 1) rfl (by kernel_rfl) (fun K hK => ?_)
    go_simp
    go_at_call 92
    refine (two_any w2.heap.size _ _ (slo % 65536) _ ?_ _ hown10.out hz10 (by omega) (by simp [beB_length])).mono ?_
    · rw [Int.tmod_eq_emod_of_nonneg (by omega), wraps62 _ (by omega) (by omega)]
      omega
    rintro e w11 ⟨v11, rfl, hown11, hg11⟩
    have hb11 := hg11.below hown10.out hz10
    have hz11 := Nat.le_trans hz10 hb11.size
    refine hK _ _ hb11 ?_
    clear hK K
    refine wpF_step 13 (fuel := 0) rfl (by kernel_rfl) (fun K hK => ?_)
    go_simp
    refine hK _ _ (Below.refl _ _) ?_
    clear hK K
    refine wpF_done (by kernel_rfl) ?_ 0
    rw [List.append_assoc _ (beB (slo / 65536) 2) (beB (slo % 65536) 2), ← beB_four] at hown11
    have hb2b : Below w2.heap.size w2 w11 := hb29.out.trans (hb10.trans hb11)
    obtain ⟨wc, hwc⟩ : ∃ wc, w11.drew = wc := ⟨_, rfl⟩
    have hb2c : Below w2.heap.size w2 wc := hb2b.trans (hwc ▸ (Below.refl _ _).drew)
    have hownc : OwnB wc w2.heap.size v11 _ := hown11.below (hwc ▸ (Below.refl _ _).drew)
    have hz2c := hb2c.size
    have hgc := blk_below hb2c hlt2 hg2.out
    have hclc : ∀ (l : From w2.heap.size wc) (o : Nat), l.w.cell? ⟨w.heap.size, o, none⟩ = _ := fun l o => blk_cell (blk_below l.hb hlt2 hgc) o
    clear hcl9 hb10 hb11 hg10 hg11 hown10 hown11 hown9 hown8 hz10 hz11 hg9'
    replace hownc := hide hownc
    replace hb2b := hide hb2b
    replace hb2c := hide hb2c
    replace hgc := hide hgc
    go_wp2_with fail
    refine wp_region_F (Below w2.heap.size) (by kernel_rfl) ?_
    rw [hwc]
    clear hwc
    refine wpB_seg w2.heap.size 0 6 (fuel := 8) (by kernel_rfl) (fun d _ _ _ _ h => by cases d <;> exact h) (by kernel_rfl) (by kernel_rfl) ?_
    simp only [List.drop_zero, List.take_succ_cons, List.take_zero]
    iterate 6 (refine wpQB_step (fun K hK => ?_); go_simp; refine hK _ ?_; clear hK K)
    refine wpQF_nil ?_
    refine wpB_seg w2.heap.size 7 5 (fuel := 3) (by kernel_rfl) (fun d _ _ _ _ h => by cases d <;> exact h) (by kernel_rfl) (by kernel_rfl) ?_
    simp only [List.drop_succ_cons, List.drop_zero, List.take_succ_cons, List.take_zero]
    iterate 5 (refine wpQB_step (fun K hK => ?_); go_simp; refine hK _ ?_; clear hK K)
    refine wpQF_nil ?_
    refine wpF_step 6 (fuel := 2) rfl (by kernel_rfl) (fun K hK => ?_)
    go_simp
    go_at_call 92
    refine (two_any w2.heap.size _ _ (dlo / 65536) _ ?_ _ hownc.out hz2c (by omega) (by simp [beB_length])).mono ?_
    · rw [wrapsu64 _ (by omega) (by omega), wraps62 _ (by omega) (by omega)]
      omega
    rintro e w12 ⟨v12, rfl, hown12, hg12⟩
    have hb12 := hg12.below hownc.out hz2c
    have hz12 := Nat.le_trans hz2c hb12.size
    replace hown12 := hide hown12
    refine hK _ _ hb12 ?_
    clear hK K
    refine wpF_step 12 (fuel := 1) rfl (by kernel_rfl) (fun K hK => ?_)
    go_simp
    go_at_call 92
    refine (two_any w2.heap.size _ _ (dlo % 65536) _ ?_ _ hown12.out hz12 (by omega) (by simp [beB_length])).mono ?_
    · rw [Int.tmod_eq_emod_of_nonneg (by omega), wraps62 _ (by omega) (by omega)]
      omega
    rintro e w13 ⟨v13, rfl, hown13, hg13⟩
    have hb13 := hg13.below hown12.out hz12
    have hz13 := Nat.le_trans hz12 hb13.size
    refine hK _ _ hb13 ?_
    clear hK K
    refine wpF_step 13 (fuel := 0) rfl (by kernel_rfl) (fun K hK => ?_)
    go_simp
    refine hK _ _ (Below.refl _ _) ?_
    clear hK K
    refine wpF_done (by kernel_rfl) ?_ 0
    rw [List.append_assoc _ (beB (dlo / 65536) 2) (beB (dlo % 65536) 2), ← beB_four] at hown13
    have hb2d : Below w2.heap.size w2 w13 := hb2c.out.trans (hb12.trans hb13)
    have hgd := blk_below hb2d hlt2 hg2.out
    have hcgd := blk_cell hgd
    have hod := ho2.out.below hb2d
    clear hclc hb12 hb13 hg12 hg13 hown12 hownc hz12
    replace hown13 := hide hown13
    replace hb2d := hide hb2d
    replace hod := hide hod
    replace hgd := hide hgd
    go_wp2_with (at_builtin; refine wpl_src_bv rfl (.tmp 76) (.tmp 78) rfl w2.heap.size _ _ os _ _ _ w2.heap.size rfl rfl hown13.out hod.out ?_ ?_ ?_)
    · exact hz13
    · simp [beB_length]; omega
    intro v14 w14 hown14 hg14
    have hb14 := hg14.below hown13.out hz13
    have hz14 := Nat.le_trans hz13 hb14.size
    have hlen : (hdB0 tos id fl ttl proto slo dlo os m).length = 20 + n := by rw [hdB0_length, hno.out]
    have hown14 : OwnB w14 w2.heap.size v14 (hdB0 tos id fl ttl proto slo dlo os m) := by
      unfold hdB0
      rw [hno.out, hsz.out]
      simpa using hown14
    obtain ⟨A14, c14, rfl, hc14, hm14, hi14⟩ := hown14.form
    rw [hlen] at hi14 hc14 hown14 ⊢
    have hb2e : Below w2.heap.size w2 w14 := hb2d.out.trans hb14
    clear hcgd hg14 hown13
    replace hown14 := hide hown14
    replace hi14 := hide hi14
    replace hlen := hide hlen
    replace hb2e := hide hb2e
    go_wp2_with fail
    refine (Sum.refCheck_any _ _ _ (hdB0 tos id fl ttl proto slo dlo os m) _ hi14.out (by omega)).mono ?_
    rintro e w15 ⟨rfl, hb15⟩
    obtain ⟨C, hC⟩ : ∃ C, 65535 - Sum.ones (Sum.tot false (hdB0 tos id fl ttl proto slo dlo os m)) = C := ⟨_, rfl⟩
    rw [hC]
    have hCl : C ≤ 65535 := by omega
    have hown15 := hown14.out.below hb15
    have hi15 := hown15.reads.2.2.2
    obtain ⟨g3, cur, rfl, hg3b, hh3, hcl3, htk3, _, _, hl3⟩ := hown15.row (by omega)
    obtain ⟨_, _, _, hc10⟩ := hi15.byteAt (i := 10) (by omega)
    obtain ⟨_, _, _, hc11⟩ := hi15.byteAt (i := 11) (by omega)
    rw [Nat.zero_add] at hc10 hc11
    have hz10 := blk_free hh3 10
    have hz11 := blk_free hh3 11
    have i10 : (10 : Int) < ((20 + n : Nat) : Int) := by omega
    have i11 : (11 : Int) < ((20 + n : Nat) : Int) := by omega
    have hb2f : Below w2.heap.size w2 w15 := hb2e.out.trans (hb15.mono hz14)
    clear htk3
    replace hh3 := hide hh3
    replace hi15 := hide hi15
    replace hown15 := hide hown15
    replace hb15 := hide hb15
    replace hb2f := hide hb2f
    replace hcl3 := hide hcl3
    replace hl3 := hide hl3
    replace hC := hide hC
    have hp15 := hp2.out.below hb2f.out
    replace hp15 := hide hp15
    have hsets : ∀ a b, Below w2.heap.size w15 ((w15.setCell ⟨g3, 10, none⟩ a).setCell ⟨g3, 11, none⟩ b) := fun a b => ((Below.refl _ _).setCell (p := ⟨g3, 10, none⟩) hg3b a).setCell (p := ⟨g3, 11, none⟩) hg3b b
    replace hsets := hide hsets
    have hz15 := hb2f.out.size
    go_wp2_with (at_builtin; refine wpl_src_bv rfl (.tmp 92) (.tmp 93) rfl w2.heap.size _ (hdB tos id fl ttl proto slo dlo os m) ps _ _ _ w2.heap.size rfl rfl ?_ ?_ ?_ ?_ ?_)
    · show OwnB _ _ (.slice (some ⟨g3, 0, none⟩) (20 + n) c14) _
      have h1 := (hown15.out.store 10 (UInt8.ofNat (C / 256))).store 11 (UInt8.ofNat C)
      rw [u8v_nat _ (show C / 256 ≤ 255 by omega), ← u8v_mod] at h1
      rw [hdB_set _ _ _ _ _ _ _ _ _ _ hC.out]
      exact h1
    · exact hp15.out.below (hsets.out _ _)
    · exact Nat.le_trans hz15 (hsets.out _ _).size
    · rw [hdB_set _ _ _ _ _ _ _ _ _ _ hC.out]
      simp [hlen.out]
      omega
    intro v16 w16 hown16 hg16
    have hb16 := hg16.below (base := w2.heap.size) (xs := hdB tos id fl ttl proto slo dlo os m) (by
      show OwnB _ _ (.slice (some ⟨g3, 0, none⟩) (20 + n) c14) _
      have h1 := (hown15.out.store 10 (UInt8.ofNat (C / 256))).store 11 (UInt8.ofNat C)
      rw [u8v_nat _ (show C / 256 ≤ 255 by omega), ← u8v_mod] at h1
      rw [hdB_set _ _ _ _ _ _ _ _ _ _ hC.out]
      exact h1) (Nat.le_trans hz15 (hsets.out _ _).size)
    go_wp2
    go_ret
    exact ⟨_, rfl, hown16.weaken (Nat.le_of_lt hlt2), hb2.out.trans ((hb2f.out.trans ((hsets.out _ _).trans hb16)).mono (Nat.le_of_lt hlt2))⟩
  case true.false =>
    replace hg2 := hide hg2
    go_enter Try.func49, Try.ntmps49
    go_wp2_with fail
    clear hw2
    obtain ⟨w3, hw3⟩ : ∃ w3, w2.drew = w3 := ⟨_, rfl⟩
    have hb3 : Below w2.heap.size w2 w3 := hw3 ▸ (Below.refl _ _).drew
    have hz3 : w3.heap.size = w2.heap.size := hw3 ▸ rfl
    have hg3 := blk_below hb3 hlt2 hg2.out
    have hcl : ∀ (l : From w2.heap.size w3) (o : Nat), l.w.cell? ⟨w.heap.size, o, none⟩ = _ := fun l o => blk_cell (blk_below l.hb hlt2 hg3) o
    refine wp_region_F (Below w2.heap.size) (by kernel_rfl) ?_
    rw [hw3]
    clear hw3
    replace hg3 := hide hg3
    replace hb3 := hide hb3
    refine wpB_seg w2.heap.size 0 7 (fuel := 12) (by kernel_rfl) (fun d _ _ _ _ h => by cases d <;> exact h) (by kernel_rfl) (by kernel_rfl) ?_
    simp only [List.drop_zero, List.take_succ_cons, List.take_zero]
    iterate 7 (refine wpQB_step (fun K hK => ?_); go_simp; refine hK _ ?_; clear hK K)
    refine wpQF_nil ?_
    refine wpB_seg w2.heap.size 8 4 (fuel := 8) (by kernel_rfl) (fun d _ _ _ _ h => by cases d <;> exact h) (by kernel_rfl) (by kernel_rfl) ?_
    simp only [List.drop_succ_cons, List.drop_zero, List.take_succ_cons, List.take_zero]
    iterate 4 (refine wpQB_step (fun K hK => ?_); go_simp; refine hK _ ?_; clear hK K)
    refine wpQF_nil ?_
    refine wpB_seg w2.heap.size 13 2 (fuel := 6) (by kernel_rfl) (fun d _ _ _ _ h => by cases d <;> exact h) (by kernel_rfl) (by kernel_rfl) ?_
    simp only [List.drop_succ_cons, List.drop_zero, List.take_succ_cons, List.take_zero]
    iterate 2 (refine wpQB_step (fun K hK => ?_); go_simp; refine hK _ ?_; clear hK K)
    refine wpQF_nil ?_
    refine wpB_seg w2.heap.size 16 1 (fuel := 5) (by kernel_rfl) (fun d _ _ _ _ h => by cases d <;> exact h) (by kernel_rfl) (by kernel_rfl) ?_
    simp only [List.drop_succ_cons, List.drop_zero, List.take_succ_cons, List.take_zero]
    iterate 1 (refine wpQB_step (fun K hK => ?_); go_simp; refine hK _ ?_; clear hK K)
    refine wpQF_nil ?_
    refine wpF_step 7 (fuel := 4) rfl (by kernel_rfl) (fun K hK => ?_)
    go_simp
    obtain ⟨sz, hsz⟩ : ∃ sz, (20 + n) / 4 = sz := ⟨_, rfl⟩
    have q1 : IntKind.i64.wrap ((20 + (n : Int)).tdiv 4) = (sz : Int) := by
      rw [Int.tdiv_eq_ediv_of_nonneg (by omega)]
      rw [wraps62 _ (by omega) (by omega)]
      omega
    have q2 : IntKind.i64.wrap (64 + (sz : Int)) = ((64 + sz : Nat) : Int) := by rw [wraps62 _ (by omega) (by omega)]; omega
    have q3 : IntKind.u8.wrap ((64 + sz : Nat) : Int) = ((64 + sz : Nat) : Int) := wraps_u8 _ (by omega) (by omega)
    have q4 : IntKind.u8.wrap (tos : Int) = (tos : Int) := wraps_u8 _ (by omega) (by omega)
    have q5 : IntKind.i64.wrap (20 + (n : Int) + (m : Int)) = ((20 + n + m : Nat) : Int) := by rw [wraps62 _ (by omega) (by omega)]; omega
    rw [q1, q2, q3, q4, q5]
    have hown0 : OwnB (w3.alloc (.cells #[.int .u8 ((64 + sz : Nat) : Int), .int .u8 (tos : Int)] 5)) w2.heap.size (.slice (some ⟨w3.heap.size, 0, none⟩) 2 2) [UInt8.ofNat (64 + sz), UInt8.ofNat tos] :=
      OwnB.litv w3 w2.heap.size _ _ 2 (by simp only [List.map_cons, List.map_nil]; rw [u8v_nat _ (by omega), u8v_nat _ (by omega)]) rfl (by omega) (by omega)
    rw [hz3] at hown0
    obtain ⟨w4, hw4⟩ : ∃ w4, w3.alloc (.cells #[.int .u8 ((64 + sz : Nat) : Int), .int .u8 (tos : Int)] 5) = w4 := ⟨_, rfl⟩
    have hb4 : Below w2.heap.size w3 w4 := hw4 ▸ (Below.refl _ _).alloc (by omega) _
    have hz4 : w2.heap.size ≤ w4.heap.size := by rw [← hw4]; simp; omega
    rw [hw4] at hown0 ⊢
    clear hw4 q1 q2 q3 q4 q5
    replace hsz := hide hsz
    replace hown0 := hide hown0
    refine hK _ _ hb4 ?_
    clear hK K
    refine wpF_step 12 (fuel := 3) rfl (by kernel_rfl) (fun K hK => ?_)
    go_simp
    go_at_call 92
    refine (two_any w2.heap.size _ _ (20 + n + m) _ rfl _ hown0.out hz4 (by omega) (by simp)).mono ?_
    rintro e w5 ⟨v5, rfl, hown5, hg5⟩
    have hb5 := hg5.below hown0.out hz4
    have hz5 := hb5.size
    replace hown5 := hide hown5
    refine hK _ _ hb5 ?_
    clear hK K
    refine wpF_step 15 (fuel := 2) rfl (by kernel_rfl) (fun K hK => ?_)
    go_simp
    go_at_call 92
    refine (two_any w2.heap.size _ _ id _ rfl _ hown5.out (Nat.le_trans hz4 hz5) (by omega) (by simp [beB_length])).mono ?_
    rintro e w6 ⟨v6, rfl, hown6, hg6⟩
    have hb6 := hg6.below hown5.out (Nat.le_trans hz4 hz5)
    have hz6 := hb6.size
    replace hown6 := hide hown6
    refine hK _ _ hb6 ?_
    clear hK K
    refine wpF_step 17 (fuel := 1) rfl (by kernel_rfl) (fun K hK => ?_)
    go_simp
    go_at_call 92
    refine (two_any w2.heap.size _ _ fl _ rfl _ hown6.out (Nat.le_trans hz4 (Nat.le_trans hz5 hz6)) (by omega) (by simp [beB_length])).mono ?_
    rintro e w7 ⟨v7, rfl, hown7, hg7⟩
    have hb7 := hg7.below hown6.out (Nat.le_trans hz4 (Nat.le_trans hz5 hz6))
    have hz7 := hb7.size
    replace hown7 := hide hown7
    refine hK _ _ hb7 ?_
    clear hK K
    refine wpF_step 18 (fuel := 0) rfl (by kernel_rfl) (fun K hK => ?_)
    go_simp
    refine hK _ _ (Below.refl _ _) ?_
    clear hK K
    refine wpF_done (by kernel_rfl) ?_ 0
    have hb27 : Below w2.heap.size w2 w7 := hb3.out.trans (hb4.trans (hb5.trans (hb6.trans hb7)))
    have hz27 : w2.heap.size ≤ w7.heap.size := hb27.size
    have hg7' := blk_below hb27 hlt2 hg2.out
    have hcg7 := blk_cell hg7'
    clear hcl hb4 hb5 hb6 hb7 hz4 hz5 hz6 hz7 hg5 hg6 hg7 hown0 hown5 hown6 hg3 hb3 hcg
    replace hg7' := hide hg7'
    replace hb27 := hide hb27
    have hv4 : [Value.int .u8 (ttl : Int), .int .u8 (proto : Int), .int .u8 0, .int .u8 0] = ([UInt8.ofNat ttl, UInt8.ofNat proto, 0, 0] : List UInt8).map u8v := by
      simp only [List.map_cons, List.map_nil]
      rw [u8v_nat _ (by omega), u8v_nat _ (by omega)]
      rfl
    replace hv4 := hide hv4
    go_wp2_with (at_builtin; refine wpl_lit_bv rfl (.tmp 41) (.tmp 48) rfl w2.heap.size _ _ [UInt8.ofNat ttl, UInt8.ofNat proto, 0, 0] _ _ rfl rfl ?_ ?_ hown7.out ?_ ?_ ?_)
    · exact hv4.out
    · rfl
    · exact hz27
    · simp [beB_length]
    intro v8 w8 hown8 hg8
    have hb8 := hg8.below hown7.out hz27
    have hz28 : w2.heap.size ≤ w8.heap.size := Nat.le_trans hz27 hb8.size
    have hb28 : Below w2.heap.size w2 w8 := hb27.out.trans hb8
    have hg8' := blk_below hb28 hlt2 hg2.out
    obtain ⟨w9, hw9⟩ : ∃ w9, w8.drew = w9 := ⟨_, rfl⟩
    have hb29 : Below w2.heap.size w2 w9 := hb28.trans (hw9 ▸ (Below.refl _ _).drew)
    have hown9 : OwnB w9 w2.heap.size v8 _ := hown8.below (hw9 ▸ (Below.refl _ _).drew)
    have hz29 := hb29.size
    have hg9' := blk_below hb29 hlt2 hg2.out
    have hcl9 : ∀ (l : From w2.heap.size w9) (o : Nat), l.w.cell? ⟨w.heap.size, o, none⟩ = _ := fun l o => blk_cell (blk_below l.hb hlt2 hg9') o
    clear hcg7 hb8 hg8 hg8' hown7 hg7'
    replace hown8 := hide hown8
    replace hown9 := hide hown9
    replace hb28 := hide hb28
    replace hb29 := hide hb29
    replace hg9' := hide hg9'
    go_wp2_with fail
    refine wp_region_F (Below w2.heap.size) (by kernel_rfl) ?_
    rw [hw9]
    clear hw9
    refine wpB_seg w2.heap.size 0 6 (fuel := 8) (by kernel_rfl) (fun d _ _ _ _ h => by cases d <;> exact h) (by kernel_rfl) (by kernel_rfl) ?_
    simp only [List.drop_zero, List.take_succ_cons, List.take_zero]
    iterate 6 (refine wpQB_step (fun K hK => ?_); go_simp; refine hK _ ?_; clear hK K)
    refine wpQF_nil ?_
    refine wpB_seg w2.heap.size 7 5 (fuel := 3) (by kernel_rfl) (fun d _ _ _ _ h => by cases d <;> exact h) (by kernel_rfl) (by kernel_rfl) ?_
    simp only [List.drop_succ_cons, List.drop_zero, List.take_succ_cons, List.take_zero]
    iterate 5 (refine wpQB_step (fun K hK => ?_); go_simp; refine hK _ ?_; clear hK K)
    refine wpQF_nil ?_
    refine wpF_step 6 (fuel := 2) rfl (by kernel_rfl) (fun K hK => ?_)
    go_simp
    go_at_call 92
    refine (two_any w2.heap.size _ _ (slo / 65536) _ ?_ _ hown9.out hz29 (by omega) (by simp [beB_length])).mono ?_
    · rw [wrapsu64 _ (by omega) (by omega), wraps62 _ (by omega) (by omega)]
      omega
    rintro e w10 ⟨v10, rfl, hown10, hg10⟩
    have hb10 := hg10.below hown9.out hz29
    have hz10 := Nat.le_trans hz29 hb10.size
    replace hown10 := hide hown10
    refine hK _ _ hb10 ?_
    clear hK K
    refine wpF_step 12 (fuel := 1) rfl (by kernel_rfl) (fun K hK => ?_)
    go_simp
    go_at_call 92
    refine (two_any w2.heap.size _ _ (slo % 65536) _ ?_ _ hown10.out hz10 (by omega) (by simp [beB_length])).mono ?_
    · rw [Int.tmod_eq_emod_of_nonneg (by omega), wraps62 _ (by omega) (by omega)]
      omega
    rintro e w11 ⟨v11, rfl, hown11, hg11⟩
    have hb11 := hg11.below hown10.out hz10
    have hz11 := Nat.le_trans hz10 hb11.size
    refine hK _ _ hb11 ?_
    clear hK K
    refine wpF_step 13 (fuel := 0) rfl (by kernel_rfl) (fun K hK => ?_)
    go_simp
    refine hK _ _ (Below.refl _ _) ?_
    clear hK K
    refine wpF_done (by kernel_rfl) ?_ 0
    rw [List.append_assoc _ (beB (slo / 65536) 2) (beB (slo % 65536) 2), ← beB_four] at hown11
    have hb2b : Below w2.heap.size w2 w11 := hb29.out.trans (hb10.trans hb11)
    obtain ⟨wc, hwc⟩ : ∃ wc, w11.drew = wc := ⟨_, rfl⟩
    have hb2c : Below w2.heap.size w2 wc := hb2b.trans (hwc ▸ (Below.refl _ _).drew)
    have hownc : OwnB wc w2.heap.size v11 _ := hown11.below (hwc ▸ (Below.refl _ _).drew)
    have hz2c := hb2c.size
    have hgc := blk_below hb2c hlt2 hg2.out
    have hclc : ∀ (l : From w2.heap.size wc) (o : Nat), l.w.cell? ⟨w.heap.size, o, none⟩ = _ := fun l o => blk_cell (blk_below l.hb hlt2 hgc) o
    clear hcl9 hb10 hb11 hg10 hg11 hown10 hown11 hown9 hown8 hz10 hz11 hg9'
    replace hownc := hide hownc
    replace hb2b := hide hb2b
    replace hb2c := hide hb2c
    replace hgc := hide hgc
    go_wp2_with fail
    refine wp_region_F (Below w2.heap.size) (by kernel_rfl) ?_
    rw [hwc]
    clear hwc
    refine wpB_seg w2.heap.size 0 6 (fuel := 8) (by kernel_rfl) (fun d _ _ _ _ h => by cases d <;> exact h) (by kernel_rfl) (by kernel_rfl) ?_
    simp only [List.drop_zero, List.take_succ_cons, List.take_zero]
    iterate 6 (refine wpQB_step (fun K hK => ?_); go_simp; refine hK _ ?_; clear hK K)
    refine wpQF_nil ?_
    refine wpB_seg w2.heap.size 7 5 (fuel := 3) (by kernel_rfl) (fun d _ _ _ _ h => by cases d <;> exact h) (by kernel_rfl) (by kernel_rfl) ?_
    simp only [List.drop_succ_cons, List.drop_zero, List.take_succ_cons, List.take_zero]
    iterate 5 (refine wpQB_step (fun K hK => ?_); go_simp; refine hK _ ?_; clear hK K)
    refine wpQF_nil ?_
    refine wpF_step 6 (fuel := 2) rfl (by kernel_rfl) (fun K hK => ?_)
    go_simp
    go_at_call 92
    refine (two_any w2.heap.size _ _ (dlo / 65536) _ ?_ _ hownc.out hz2c (by omega) (by simp [beB_length])).mono ?_
    · rw [wrapsu64 _ (by omega) (by omega), wraps62 _ (by omega) (by omega)]
      omega
    rintro e w12 ⟨v12, rfl, hown12, hg12⟩
    have hb12 := hg12.below hownc.out hz2c
    have hz12 := Nat.le_trans hz2c hb12.size
    replace hown12 := hide hown12
    refine hK _ _ hb12 ?_
    clear hK K
    refine wpF_step 12 (fuel := 1) rfl (by kernel_rfl) (fun K hK => ?_)
    go_simp
    go_at_call 92
    refine (two_any w2.heap.size _ _ (dlo % 65536) _ ?_ _ hown12.out hz12 (by omega) (by simp [beB_length])).mono ?_
    · rw [Int.tmod_eq_emod_of_nonneg (by omega), wraps62 _ (by omega) (by omega)]
      omega
    rintro e w13 ⟨v13, rfl, hown13, hg13⟩
    have hb13 := hg13.below hown12.out hz12
    have hz13 := Nat.le_trans hz12 hb13.size
    refine hK _ _ hb13 ?_
    clear hK K
    refine wpF_step 13 (fuel := 0) rfl (by kernel_rfl) (fun K hK => ?_)
    go_simp
    refine hK _ _ (Below.refl _ _) ?_
    clear hK K
    refine wpF_done (by kernel_rfl) ?_ 0
    rw [List.append_assoc _ (beB (dlo / 65536) 2) (beB (dlo % 65536) 2), ← beB_four] at hown13
    have hb2d : Below w2.heap.size w2 w13 := hb2c.out.trans (hb12.trans hb13)
    have hgd := blk_below hb2d hlt2 hg2.out
    have hcgd := blk_cell hgd
    have hod := ho2.out.below hb2d
    clear hclc hb12 hb13 hg12 hg13 hown12 hownc hz12
    replace hown13 := hide hown13
    replace hb2d := hide hb2d
    replace hod := hide hod
    replace hgd := hide hgd
    go_wp2_with (at_builtin; refine wpl_src_bv rfl (.tmp 76) (.tmp 78) rfl w2.heap.size _ _ os _ _ _ w2.heap.size rfl rfl hown13.out hod.out ?_ ?_ ?_)
    · exact hz13
    · simp [beB_length]; omega
    intro v14 w14 hown14 hg14
    have hb14 := hg14.below hown13.out hz13
    have hz14 := Nat.le_trans hz13 hb14.size
    have hlen : (hdB0 tos id fl ttl proto slo dlo os m).length = 20 + n := by rw [hdB0_length, hno.out]
    have hown14 : OwnB w14 w2.heap.size v14 (hdB0 tos id fl ttl proto slo dlo os m) := by
      unfold hdB0
      rw [hno.out, hsz.out]
      simpa using hown14
    obtain ⟨A14, c14, rfl, hc14, hm14, hi14⟩ := hown14.form
    rw [hlen] at hi14 hc14 hown14 ⊢
    have hb2e : Below w2.heap.size w2 w14 := hb2d.out.trans hb14
    clear hcgd hg14 hown13
    replace hown14 := hide hown14
    replace hi14 := hide hi14
    replace hlen := hide hlen
    replace hb2e := hide hb2e
    go_wp2_with fail
    refine (Sum.refCheck_any _ _ _ (hdB0 tos id fl ttl proto slo dlo os m) _ hi14.out (by omega)).mono ?_
    rintro e w15 ⟨rfl, hb15⟩
    obtain ⟨C, hC⟩ : ∃ C, 65535 - Sum.ones (Sum.tot false (hdB0 tos id fl ttl proto slo dlo os m)) = C := ⟨_, rfl⟩
    rw [hC]
    have hCl : C ≤ 65535 := by omega
    have hown15 := hown14.out.below hb15
    have hi15 := hown15.reads.2.2.2
    obtain ⟨g3, cur, rfl, hg3b, hh3, hcl3, htk3, _, _, hl3⟩ := hown15.row (by omega)
    obtain ⟨_, _, _, hc10⟩ := hi15.byteAt (i := 10) (by omega)
    obtain ⟨_, _, _, hc11⟩ := hi15.byteAt (i := 11) (by omega)
    rw [Nat.zero_add] at hc10 hc11
    have hz10 := blk_free hh3 10
    have hz11 := blk_free hh3 11
    have i10 : (10 : Int) < ((20 + n : Nat) : Int) := by omega
    have i11 : (11 : Int) < ((20 + n : Nat) : Int) := by omega
    have hb2f : Below w2.heap.size w2 w15 := hb2e.out.trans (hb15.mono hz14)
    clear htk3
    replace hh3 := hide hh3
    replace hi15 := hide hi15
    replace hown15 := hide hown15
    replace hb15 := hide hb15
    replace hb2f := hide hb2f
    replace hcl3 := hide hcl3
    replace hl3 := hide hl3
    replace hC := hide hC
    have hp15 := hp2.out.below hb2f.out
    replace hp15 := hide hp15
    have hsets : ∀ a b, Below w2.heap.size w15 ((w15.setCell ⟨g3, 10, none⟩ a).setCell ⟨g3, 11, none⟩ b) := fun a b => ((Below.refl _ _).setCell (p := ⟨g3, 10, none⟩) hg3b a).setCell (p := ⟨g3, 11, none⟩) hg3b b
    replace hsets := hide hsets
    have hz15 := hb2f.out.size
    go_wp2_with (at_builtin; refine wpl_src_bv rfl (.tmp 92) (.tmp 93) rfl w2.heap.size _ (hdB tos id fl ttl proto slo dlo os m) ps _ _ _ w2.heap.size rfl rfl ?_ ?_ ?_ ?_ ?_)
    · show OwnB _ _ (.slice (some ⟨g3, 0, none⟩) (20 + n) c14) _
      have h1 := (hown15.out.store 10 (UInt8.ofNat (C / 256))).store 11 (UInt8.ofNat C)
      rw [u8v_nat _ (show C / 256 ≤ 255 by omega), ← u8v_mod] at h1
      rw [hdB_set _ _ _ _ _ _ _ _ _ _ hC.out]
      exact h1
    · exact hp15.out.below (hsets.out _ _)
    · exact Nat.le_trans hz15 (hsets.out _ _).size
    · rw [hdB_set _ _ _ _ _ _ _ _ _ _ hC.out]
      simp [hlen.out]
      omega
    intro v16 w16 hown16 hg16
    have hb16 := hg16.below (base := w2.heap.size) (xs := hdB tos id fl ttl proto slo dlo os m) (by
      show OwnB _ _ (.slice (some ⟨g3, 0, none⟩) (20 + n) c14) _
      have h1 := (hown15.out.store 10 (UInt8.ofNat (C / 256))).store 11 (UInt8.ofNat C)
      rw [u8v_nat _ (show C / 256 ≤ 255 by omega), ← u8v_mod] at h1
      rw [hdB_set _ _ _ _ _ _ _ _ _ _ hC.out]
      exact h1) (Nat.le_trans hz15 (hsets.out _ _).size)
    go_wp2
    go_ret
    exact ⟨_, rfl, hown16.weaken (Nat.le_of_lt hlt2), hb2.out.trans ((hb2f.out.trans ((hsets.out _ _).trans hb16)).mono (Nat.le_of_lt hlt2))⟩
  case true.true =>
    replace hg2 := hide hg2
    go_enter Try.func49, Try.ntmps49
    go_wp2_with fail
    clear hw2
    obtain ⟨w3, hw3⟩ : ∃ w3, w2.drew = w3 := ⟨_, rfl⟩
    have hb3 : Below w2.heap.size w2 w3 := hw3 ▸ (Below.refl _ _).drew
    have hz3 : w3.heap.size = w2.heap.size := hw3 ▸ rfl
    have hg3 := blk_below hb3 hlt2 hg2.out
    have hcl : ∀ (l : From w2.heap.size w3) (o : Nat), l.w.cell? ⟨w.heap.size, o, none⟩ = _ := fun l o => blk_cell (blk_below l.hb hlt2 hg3) o
    refine wp_region_F (Below w2.heap.size) (by kernel_rfl) ?_
    rw [hw3]
    clear hw3
    replace hg3 := hide hg3
    replace hb3 := hide hb3
    refine wpB_seg w2.heap.size 0 7 (fuel := 12) (by kernel_rfl) (fun d _ _ _ _ h => by cases d <;> exact h) (by kernel_rfl) (by kernel_rfl) ?_
    simp only [List.drop_zero, List.take_succ_cons, List.take_zero]
    iterate 7 (refine wpQB_step (fun K hK => ?_); go_simp; refine hK _ ?_; clear hK K)
    refine wpQF_nil ?_
    refine wpB_seg w2.heap.size 8 4 (fuel := 8) (by kernel_rfl) (fun d _ _ _ _ h => by cases d <;> exact h) (by kernel_rfl) (by kernel_rfl) ?_
    simp only [List.drop_succ_cons, List.drop_zero, List.take_succ_cons, List.take_zero]
    iterate 4 (refine wpQB_step (fun K hK => ?_); go_simp; refine hK _ ?_; clear hK K)
    refine wpQF_nil ?_
    refine wpB_seg w2.heap.size 13 2 (fuel := 6) (by kernel_rfl) (fun d _ _ _ _ h => by cases d <;> exact h) (by kernel_rfl) (by kernel_rfl) ?_
    simp only [List.drop_succ_cons, List.drop_zero, List.take_succ_cons, List.take_zero]
    iterate 2 (refine wpQB_step (fun K hK => ?_); go_simp; refine hK _ ?_; clear hK K)
    refine wpQF_nil ?_
    refine wpB_seg w2.heap.size 16 1 (fuel := 5) (by kernel_rfl) (fun d _ _ _ _ h => by cases d <;> exact h) (by kernel_rfl) (by kernel_rfl) ?_
    simp only [List.drop_succ_cons, List.drop_zero, List.take_succ_cons, List.take_zero]
    iterate 1 (refine wpQB_step (fun K hK => ?_); go_simp; refine hK _ ?_; clear hK K)
    refine wpQF_nil ?_
    refine wpF_step 7 (fuel := 4) rfl (by kernel_rfl) (fun K hK => ?_)
    go_simp
    obtain ⟨sz, hsz⟩ : ∃ sz, (20 + n) / 4 = sz := ⟨_, rfl⟩
    have q1 : IntKind.i64.wrap ((20 + (n : Int)).tdiv 4) = (sz : Int) := by
      rw [Int.tdiv_eq_ediv_of_nonneg (by omega)]
      rw [wraps62 _ (by omega) (by omega)]
      omega
    have q2 : IntKind.i64.wrap (64 + (sz : Int)) = ((64 + sz : Nat) : Int) := by rw [wraps62 _ (by omega) (by omega)]; omega
    have q3 : IntKind.u8.wrap ((64 + sz : Nat) : Int) = ((64 + sz : Nat) : Int) := wraps_u8 _ (by omega) (by omega)
    have q4 : IntKind.u8.wrap (tos : Int) = (tos : Int) := wraps_u8 _ (by omega) (by omega)
    have q5 : IntKind.i64.wrap (20 + (n : Int) + (m : Int)) = ((20 + n + m : Nat) : Int) := by rw [wraps62 _ (by omega) (by omega)]; omega
    rw [q1, q2, q3, q4, q5]
    have hown0 : OwnB (w3.alloc (.cells #[.int .u8 ((64 + sz : Nat) : Int), .int .u8 (tos : Int)] 5)) w2.heap.size (.slice (some ⟨w3.heap.size, 0, none⟩) 2 2) [UInt8.ofNat (64 + sz), UInt8.ofNat tos] :=
      OwnB.litv w3 w2.heap.size _ _ 2 (by simp only [List.map_cons, List.map_nil]; rw [u8v_nat _ (by omega), u8v_nat _ (by omega)]) rfl (by omega) (by omega)
    rw [hz3] at hown0
    obtain ⟨w4, hw4⟩ : ∃ w4, w3.alloc (.cells #[.int .u8 ((64 + sz : Nat) : Int), .int .u8 (tos : Int)] 5) = w4 := ⟨_, rfl⟩
    have hb4 : Below w2.heap.size w3 w4 := hw4 ▸ (Below.refl _ _).alloc (by omega) _
    have hz4 : w2.heap.size ≤ w4.heap.size := by rw [← hw4]; simp; omega
    rw [hw4] at hown0 ⊢
    clear hw4 q1 q2 q3 q4 q5
    replace hsz := hide hsz
    replace hown0 := hide hown0
    refine hK _ _ hb4 ?_
    clear hK K
    refine wpF_step 12 (fuel := 3) rfl (by kernel_rfl) (fun K hK => ?_)
    go_simp
    go_at_call 92
    refine (two_any w2.heap.size _ _ (20 + n + m) _ rfl _ hown0.out hz4 (by omega) (by simp)).mono ?_
    rintro e w5 ⟨v5, rfl, hown5, hg5⟩
    have hb5 := hg5.below hown0.out hz4
    have hz5 := hb5.size
    replace hown5 := hide hown5
    refine hK _ _ hb5 ?_
    clear hK K
    refine wpF_step 15 (fuel := 2) rfl (by kernel_rfl) (fun K hK => ?_)
    go_simp
    go_at_call 92
    refine (two_any w2.heap.size _ _ id _ rfl _ hown5.out (Nat.le_trans hz4 hz5) (by omega) (by simp [beB_length])).mono ?_
    rintro e w6 ⟨v6, rfl, hown6, hg6⟩
    have hb6 := hg6.below hown5.out (Nat.le_trans hz4 hz5)
    have hz6 := hb6.size
    replace hown6 := hide hown6
    refine hK _ _ hb6 ?_
    clear hK K
    refine wpF_step 17 (fuel := 1) rfl (by kernel_rfl) (fun K hK => ?_)
    go_simp
    go_at_call 92
    refine (two_any w2.heap.size _ _ fl _ rfl _ hown6.out (Nat.le_trans hz4 (Nat.le_trans hz5 hz6)) (by omega) (by simp [beB_length])).mono ?_
    rintro e w7 ⟨v7, rfl, hown7, hg7⟩
    have hb7 := hg7.below hown6.out (Nat.le_trans hz4 (Nat.le_trans hz5 hz6))
    have hz7 := hb7.size
    replace hown7 := hide hown7
    refine hK _ _ hb7 ?_
    clear hK K
    refine wpF_step 18 (fuel := 0) rfl (by kernel_rfl) (fun K hK => ?_)
    go_simp
    refine hK _ _ (Below.refl _ _) ?_
    clear hK K
    refine wpF_done (by kernel_rfl) ?_ 0
    have hb27 : Below w2.heap.size w2 w7 := hb3.out.trans (hb4.trans (hb5.trans (hb6.trans hb7)))
    have hz27 : w2.heap.size ≤ w7.heap.size := hb27.size
    have hg7' := blk_below hb27 hlt2 hg2.out
    have hcg7 := blk_cell hg7'
    clear hcl hb4 hb5 hb6 hb7 hz4 hz5 hz6 hz7 hg5 hg6 hg7 hown0 hown5 hown6 hg3 hb3 hcg
    replace hg7' := hide hg7'
    replace hb27 := hide hb27
    have hv4 : [Value.int .u8 (ttl : Int), .int .u8 (proto : Int), .int .u8 0, .int .u8 0] = ([UInt8.ofNat ttl, UInt8.ofNat proto, 0, 0] : List UInt8).map u8v := by
      simp only [List.map_cons, List.map_nil]
      rw [u8v_nat _ (by omega), u8v_nat _ (by omega)]
      rfl
    replace hv4 := hide hv4
    go_wp2_with (at_builtin; refine wpl_lit_bv rfl (.tmp 41) (.tmp 48) rfl w2.heap.size _ _ [UInt8.ofNat ttl, UInt8.ofNat proto, 0, 0] _ _ rfl rfl ?_ ?_ hown7.out ?_ ?_ ?_)
    · exact hv4.out
    · rfl
    · exact hz27
    · simp [beB_length]
    intro v8 w8 hown8 hg8
    have hb8 := hg8.below hown7.out hz27
    have hz28 : w2.heap.size ≤ w8.heap.size := Nat.le_trans hz27 hb8.size
    have hb28 : Below w2.heap.size w2 w8 := hb27.out.trans hb8
    have hg8' := blk_below hb28 hlt2 hg2.out
    obtain ⟨w9, hw9⟩ : ∃ w9, w8.drew = w9 := ⟨_, rfl⟩
    have hb29 : Below w2.heap.size w2 w9 := hb28.trans (hw9 ▸ (Below.refl _ _).drew)
    have hown9 : OwnB w9 w2.heap.size v8 _ := hown8.below (hw9 ▸ (Below.refl _ _).drew)
    have hz29 := hb29.size
    have hg9' := blk_below hb29 hlt2 hg2.out
    have hcl9 : ∀ (l : From w2.heap.size w9) (o : Nat), l.w.cell? ⟨w.heap.size, o, none⟩ = _ := fun l o => blk_cell (blk_below l.hb hlt2 hg9') o
    clear hcg7 hb8 hg8 hg8' hown7 hg7'
    replace hown8 := hide hown8
    replace hown9 := hide hown9
    replace hb28 := hide hb28
    replace hb29 := hide hb29
    replace hg9' := hide hg9'
    go_wp2_with fail
    refine wp_region_F (Below w2.heap.size) (by kernel_rfl) ?_
    rw [hw9]
    clear hw9
    refine wpB_seg w2.heap.size 0 6 (fuel := 8) (by kernel_rfl) (fun d _ _ _ _ h => by cases d <;> exact h) (by kernel_rfl) (by kernel_rfl) ?_
    simp only [List.drop_zero, List.take_succ_cons, List.take_zero]
    iterate 6 (refine wpQB_step (fun K hK => ?_); go_simp; refine hK _ ?_; clear hK K)
    refine wpQF_nil ?_
    refine wpB_seg w2.heap.size 7 5 (fuel := 3) (by kernel_rfl) (fun d _ _ _ _ h => by cases d <;> exact h) (by kernel_rfl) (by kernel_rfl) ?_
    simp only [List.drop_succ_cons, List.drop_zero, List.take_succ_cons, List.take_zero]
    iterate 5 (refine wpQB_step (fun K hK => ?_); go_simp; refine hK _ ?_; clear hK K)
    refine wpQF_nil ?_
    refine wpF_step 6 (fuel := 2) rfl (by kernel_rfl) (fun K hK => ?_)
    go_simp
    go_at_call 92
    refine (two_any w2.heap.size _ _ (slo / 65536) _ ?_ _ hown9.out hz29 (by omega) (by simp [beB_length])).mono ?_
    · rw [wrapsu64 _ (by omega) (by omega), wraps62 _ (by omega) (by omega)]
      omega
    rintro e w10 ⟨v10, rfl, hown10, hg10⟩
    have hb10 := hg10.below hown9.out hz29
    have hz10 := Nat.le_trans hz29 hb10.size
    replace hown10 := hide hown10
    refine hK _ _ hb10 ?_
    clear hK K
    refine wpF_step 12 (fuel := 1) rfl (by kernel_rfl) (fun K hK => ?_)
    go_simp
    go_at_call 92
    refine (two_any w2.heap.size _ _ (slo % 65536) _ ?_ _ hown10.out hz10 (by omega) (by simp [beB_length])).mono ?_
    · rw [Int.tmod_eq_emod_of_nonneg (by omega), wraps62 _ (by omega) (by omega)]
      omega
    rintro e w11 ⟨v11, rfl, hown11, hg11⟩
    have hb11 := hg11.below hown10.out hz10
    have hz11 := Nat.le_trans hz10 hb11.size
    refine hK _ _ hb11 ?_
    clear hK K
    refine wpF_step 13 (fuel := 0) rfl (by kernel_rfl) (fun K hK => ?_)
    go_simp
    refine hK _ _ (Below.refl _ _) ?_
    clear hK K
    refine wpF_done (by kernel_rfl) ?_ 0
    rw [List.append_assoc _ (beB (slo / 65536) 2) (beB (slo % 65536) 2), ← beB_four] at hown11
    have hb2b : Below w2.heap.size w2 w11 := hb29.out.trans (hb10.trans hb11)
    obtain ⟨wc, hwc⟩ : ∃ wc, w11.drew = wc := ⟨_, rfl⟩
    have hb2c : Below w2.heap.size w2 wc := hb2b.trans (hwc ▸ (Below.refl _ _).drew)
    have hownc : OwnB wc w2.heap.size v11 _ := hown11.below (hwc ▸ (Below.refl _ _).drew)
    have hz2c := hb2c.size
    have hgc := blk_below hb2c hlt2 hg2.out
    have hclc : ∀ (l : From w2.heap.size wc) (o : Nat), l.w.cell? ⟨w.heap.size, o, none⟩ = _ := fun l o => blk_cell (blk_below l.hb hlt2 hgc) o
    clear hcl9 hb10 hb11 hg10 hg11 hown10 hown11 hown9 hown8 hz10 hz11 hg9'
    replace hownc := hide hownc
    replace hb2b := hide hb2b
    replace hb2c := hide hb2c
    replace hgc := hide hgc
    go_wp2_with fail
    refine wp_region_F (Below w2.heap.size) (by kernel_rfl) ?_
    rw [hwc]
    clear hwc
    refine wpB_seg w2.heap.size 0 6 (fuel := 8) (by kernel_rfl) (fun d _ _ _ _ h => by cases d <;> exact h) (by kernel_rfl) (by kernel_rfl) ?_
    simp only [List.drop_zero, List.take_succ_cons, List.take_zero]
    iterate 6 (refine wpQB_step (fun K hK => ?_); go_simp; refine hK _ ?_; clear hK K)
    refine wpQF_nil ?_
    refine wpB_seg w2.heap.size 7 5 (fuel := 3) (by kernel_rfl) (fun d _ _ _ _ h => by cases d <;> exact h) (by kernel_rfl) (by kernel_rfl) ?_
    simp only [List.drop_succ_cons, List.drop_zero, List.take_succ_cons, List.take_zero]
    iterate 5 (refine wpQB_step (fun K hK => ?_); go_simp; refine hK _ ?_; clear hK K)
    refine wpQF_nil ?_
    refine wpF_step 6 (fuel := 2) rfl (by kernel_rfl) (fun K hK => ?_)
    go_simp
    go_at_call 92
    refine (two_any w2.heap.size _ _ (dlo / 65536) _ ?_ _ hownc.out hz2c (by omega) (by simp [beB_length])).mono ?_
    · rw [wrapsu64 _ (by omega) (by omega), wraps62 _ (by omega) (by omega)]
      omega
    rintro e w12 ⟨v12, rfl, hown12, hg12⟩
    have hb12 := hg12.below hownc.out hz2c
    have hz12 := Nat.le_trans hz2c hb12.size
    replace hown12 := hide hown12
    refine hK _ _ hb12 ?_
    clear hK K
    refine wpF_step 12 (fuel := 1) rfl (by kernel_rfl) (fun K hK => ?_)
    go_simp
    go_at_call 92
    refine (two_any w2.heap.size _ _ (dlo % 65536) _ ?_ _ hown12.out hz12 (by omega) (by simp [beB_length])).mono ?_
    · rw [Int.tmod_eq_emod_of_nonneg (by omega), wraps62 _ (by omega) (by omega)]
      omega
    rintro e w13 ⟨v13, rfl, hown13, hg13⟩
    have hb13 := hg13.below hown12.out hz12
    have hz13 := Nat.le_trans hz12 hb13.size
    refine hK _ _ hb13 ?_
    clear hK K
    refine wpF_step 13 (fuel := 0) rfl (by kernel_rfl) (fun K hK => ?_)
    go_simp
    refine hK _ _ (Below.refl _ _) ?_
    clear hK K
    refine wpF_done (by kernel_rfl) ?_ 0
    rw [List.append_assoc _ (beB (dlo / 65536) 2) (beB (dlo % 65536) 2), ← beB_four] at hown13
    have hb2d : Below w2.heap.size w2 w13 := hb2c.out.trans (hb12.trans hb13)
    have hgd := blk_below hb2d hlt2 hg2.out
    have hcgd := blk_cell hgd
    have hod := ho2.out.below hb2d
    clear hclc hb12 hb13 hg12 hg13 hown12 hownc hz12
    replace hown13 := hide hown13
    replace hb2d := hide hb2d
    replace hod := hide hod
    replace hgd := hide hgd
    go_wp2_with (at_builtin; refine wpl_src_bv rfl (.tmp 76) (.tmp 78) rfl w2.heap.size _ _ os _ _ _ w2.heap.size rfl rfl hown13.out hod.out ?_ ?_ ?_)
    · exact hz13
    · simp [beB_length]; omega
    intro v14 w14 hown14 hg14
    have hb14 := hg14.below hown13.out hz13
    have hz14 := Nat.le_trans hz13 hb14.size
    have hlen : (hdB0 tos id fl ttl proto slo dlo os m).length = 20 + n := by rw [hdB0_length, hno.out]
    have hown14 : OwnB w14 w2.heap.size v14 (hdB0 tos id fl ttl proto slo dlo os m) := by
      unfold hdB0
      rw [hno.out, hsz.out]
      simpa using hown14
    obtain ⟨A14, c14, rfl, hc14, hm14, hi14⟩ := hown14.form
    rw [hlen] at hi14 hc14 hown14 ⊢
    have hb2e : Below w2.heap.size w2 w14 := hb2d.out.trans hb14
    clear hcgd hg14 hown13
    replace hown14 := hide hown14
    replace hi14 := hide hi14
    replace hlen := hide hlen
    replace hb2e := hide hb2e
    go_wp2_with fail
    refine (Sum.refCheck_any _ _ _ (hdB0 tos id fl ttl proto slo dlo os m) _ hi14.out (by omega)).mono ?_
    rintro e w15 ⟨rfl, hb15⟩
    obtain ⟨C, hC⟩ : ∃ C, 65535 - Sum.ones (Sum.tot false (hdB0 tos id fl ttl proto slo dlo os m)) = C := ⟨_, rfl⟩
    rw [hC]
    have hCl : C ≤ 65535 := by omega
    have hown15 := hown14.out.below hb15
    have hi15 := hown15.reads.2.2.2
    obtain ⟨g3, cur, rfl, hg3b, hh3, hcl3, htk3, _, _, hl3⟩ := hown15.row (by omega)
    obtain ⟨_, _, _, hc10⟩ := hi15.byteAt (i := 10) (by omega)
    obtain ⟨_, _, _, hc11⟩ := hi15.byteAt (i := 11) (by omega)
    rw [Nat.zero_add] at hc10 hc11
    have hz10 := blk_free hh3 10
    have hz11 := blk_free hh3 11
    have i10 : (10 : Int) < ((20 + n : Nat) : Int) := by omega
    have i11 : (11 : Int) < ((20 + n : Nat) : Int) := by omega
    have hb2f : Below w2.heap.size w2 w15 := hb2e.out.trans (hb15.mono hz14)
    clear htk3
    replace hh3 := hide hh3
    replace hi15 := hide hi15
    replace hown15 := hide hown15
    replace hb15 := hide hb15
    replace hb2f := hide hb2f
    replace hcl3 := hide hcl3
    replace hl3 := hide hl3
    replace hC := hide hC
    have hp15 := hp2.out.below hb2f.out
    replace hp15 := hide hp15
    have hsets : ∀ a b, Below w2.heap.size w15 ((w15.setCell ⟨g3, 10, none⟩ a).setCell ⟨g3, 11, none⟩ b) := fun a b => ((Below.refl _ _).setCell (p := ⟨g3, 10, none⟩) hg3b a).setCell (p := ⟨g3, 11, none⟩) hg3b b
    replace hsets := hide hsets
    have hz15 := hb2f.out.size
    go_wp2_with (at_builtin; refine wpl_src_bv rfl (.tmp 92) (.tmp 93) rfl w2.heap.size _ (hdB tos id fl ttl proto slo dlo os m) ps _ _ _ w2.heap.size rfl rfl ?_ ?_ ?_ ?_ ?_)
    · show OwnB _ _ (.slice (some ⟨g3, 0, none⟩) (20 + n) c14) _
      have h1 := (hown15.out.store 10 (UInt8.ofNat (C / 256))).store 11 (UInt8.ofNat C)
      rw [u8v_nat _ (show C / 256 ≤ 255 by omega), ← u8v_mod] at h1
      rw [hdB_set _ _ _ _ _ _ _ _ _ _ hC.out]
      exact h1
    · exact hp15.out.below (hsets.out _ _)
    · exact Nat.le_trans hz15 (hsets.out _ _).size
    · rw [hdB_set _ _ _ _ _ _ _ _ _ _ hC.out]
      simp [hlen.out]
      omega
    intro v16 w16 hown16 hg16
    have hb16 := hg16.below (base := w2.heap.size) (xs := hdB tos id fl ttl proto slo dlo os m) (by
      show OwnB _ _ (.slice (some ⟨g3, 0, none⟩) (20 + n) c14) _
      have h1 := (hown15.out.store 10 (UInt8.ofNat (C / 256))).store 11 (UInt8.ofNat C)
      rw [u8v_nat _ (show C / 256 ≤ 255 by omega), ← u8v_mod] at h1
      rw [hdB_set _ _ _ _ _ _ _ _ _ _ hC.out]
      exact h1) (Nat.le_trans hz15 (hsets.out _ _).size)
    go_wp2
    go_ret
    exact ⟨_, rfl, hown16.weaken (Nat.le_of_lt hlt2), hb2.out.trans ((hb2f.out.trans ((hsets.out _ _).trans hb16)).mono (Nat.le_of_lt hlt2))⟩
end Four
end Go.Proofs.Ytniieckjooahfaa
