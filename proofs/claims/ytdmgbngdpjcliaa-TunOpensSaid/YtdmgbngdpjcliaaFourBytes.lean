/- four.Bytes by contract, where the header may be. Conditions: options of at most 40 bytes, few bytes behind it. -/
import Derived.Test.YtdmgbngdpjcliaaFourLawBytes
import Derived.Test.YtdmgbngdpjcliaaFourRight
import Derived.Test.YtdmgbngdpjcliaaFourParse
import Derived.Test.YtdmgbngdpjcliaaAllLit
import Derived.Deep.DeepCutAuto
namespace Go.Proofs.Ytdmgbngdpjcliaa
open Go.RowKit Go.ChangeShapes Go.WideShapes Go.ChangeAt Go.Deep
namespace Four
theorem hdB_length (tos id fl ttl proto slo dlo : Nat) (os : List UInt8) (pl : Nat) : (hdB tos id fl ttl proto slo dlo os pl).length = 20 + os.length := by
  unfold hdB
  rw [setB_length _ _ _ (by rw [hdB0_length]; simp [beB]; omega), hdB0_length]
set_option maxRecDepth 20000 in
set_option maxHeartbeats 8000000 in
theorem bytes_yes (tos id : Nat) (df mf : Bool) (frag ttl proto slo dlo fl : Nat) (hfl : flI df mf frag = (fl : Int)) (A : Option Addr) (n c : Nat) (os : List UInt8) (P : Option Addr) (m d : Nat) (ps : List UInt8) (w : World)
    (h1 : tos ≤ 255) (h2 : id ≤ 65535) (h3 : frag ≤ 8191) (h4 : ttl ≤ 255) (h5 : proto ≤ 255) (h6 : slo < 4294967296) (h7 : dlo < 4294967296) (h8 : n ≤ 40) (h9 : n % 4 = 0)
    (ho : IsB w w.heap.size A n os) (hp : IsB w w.heap.size P m ps) (hm : 20 + n + m ≤ 65535) :
    Calls Try.prog 47 #[hdV tos id df mf frag ttl proto false 0 slo false 0 dlo A n c, .slice P m d] w fun e w' => ∃ v, e = .returned (.tuple #[v, .int .i64 0]) ∧ OwnB w' w.heap.size v (hdB tos id fl ttl proto slo dlo os m ++ ps) ∧ Below w.heap.size w w' := by
  have hno := ho.1
  have hmp := hp.1
  have hbox := blk_new w 51 #[.int .i64 tos, .int .i64 id, .bool df, .bool mf, .int .i64 frag, .int .i64 ttl, .int .i64 proto, .bool false, .int .u64 0, .int .u64 slo, .bool false, .int .u64 0, .int .u64 dlo, .slice A n c]
  replace ho := hide ho
  replace hp := hide hp
  replace hno := hide hno
  replace hmp := hide hmp
  unfold hdV
  go_enter Try.func47, Try.ntmps47
  go_wp2_with fail
  refine (right_yes tos id df mf frag ttl proto slo dlo A n c _ (by omega) (by omega) (by omega) (by omega) (by omega) (by omega) (by omega) (by omega) (by omega) (by omega) (by omega) (by omega) h8 h9).mono ?_
  rintro e w1 ⟨rfl, hb1⟩
  obtain ⟨B, hB⟩ : ∃ B, w.heap.size + 1 = B := ⟨_, rfl⟩
  have hbw1 : Below B (w.alloc (hdC tos id df mf frag ttl proto false 0 slo false 0 dlo A n c)) w1 := by rw [← hB]; simpa using hb1
  have hz1 : B ≤ w1.heap.size := by have := hb1.size; simp only [World.size_alloc] at this; omega
  have hbox1 := blk_below hb1 (by simp) hbox
  have hcg := blk_cell hbox1
  have hw1 : Below w.heap.size w w1 := ((Below.refl _ _).alloc (Nat.le_refl _) _).trans (hb1.mono (by simp))
  have hltB : w.heap.size < B := by omega
  replace hbox := hide hbox
  replace hbox1 := hide hbox1
  replace hb1 := hide hb1
  replace hbw1 := hide hbw1
  replace hw1 := hide hw1
  have hnb : n ≤ 1099511627776 := by omega
  go_wp2_with fail
  refine (len_any tos id df mf frag ttl proto false 0 slo false 0 dlo A n c _ hnb).mono ?_
  rintro e w2 ⟨rfl, hb2⟩
  have hbox2 := blk_below (hb2.mono hz1) hltB hbox1.out
  have hcg2 := blk_cell hbox2
  have hz2 := Nat.le_trans hz1 hb2.size
  have hw2 : Below w.heap.size w w2 := hw1.out.trans (hb2.mono (by omega))
  clear hcg
  replace hbox2 := hide hbox2
  replace hb2 := hide hb2
  replace hw2 := hide hw2
  have q0 : bits .or .u64 (frag : Int) 16384 = (frag : Int) + 16384 := u64_or16384 _ (by omega) (by omega)
  unfold flI at hfl
  obtain ⟨f1, hf1⟩ : ∃ f1 : Int, (frag : Int) + (if df then 16384 else 0) = f1 := ⟨_, rfl⟩
  have q1 : bits .or .u64 f1 8192 = f1 + 8192 := by
    rw [← hf1]
    rcases df with _ | _
    · simpa using u64_or8192 (frag : Int) (by omega) (by omega)
    · simpa using u64_or8192' (frag : Int) (by omega) (by omega)
  rw [hf1] at hfl
  have hfl2 : fl < 65536 := by
    have : f1 ≤ 8191 + 16384 := by rw [← hf1]; split <;> omega
    have : (if mf then (8192 : Int) else 0) ≤ 8192 := by split <;> omega
    omega
  replace hf1 := hide hf1
  replace hfl := hide hfl
  go_upto_if 23 with fail
  go_cut [6] (fun s6 wx => s6 = .int .u64 f1 ∧ w2 = wx)
  case first =>
    rcases df with _ | _ <;> (go_wp2_with fail; go_meet; exact ⟨by rw [← hf1.out]; simp, rfl⟩)
  case rest =>
  obtain ⟨rfl, rfl⟩ := hcut
  go_upto_if 27 with fail
  go_cut [6] (fun s6 wx => s6 = .int .u64 (fl : Int) ∧ w2 = wx)
  case first =>
    rcases mf with _ | _ <;> (go_wp2_with fail; go_meet; exact ⟨by rw [← hfl.out]; simp, rfl⟩)
  case rest =>
  obtain ⟨rfl, rfl⟩ := hcut
  clear q0 q1
  have hcl : ∀ (l : Later w2) (o : Nat), l.w.cell? ⟨w.heap.size, o, none⟩ = _ := fun l o => blk_cell (blk_below l.hb (Nat.lt_of_lt_of_le hltB hz2) hbox2.out) o
  go_wp2_with fail
  refine wp_region_L (by kernel_rfl) ?_
  refine wpE_seg 0 8 (fuel := 2) (by kernel_rfl) (fun d _ _ _ _ h => by cases d <;> exact h) (by kernel_rfl) (by kernel_rfl) ?_
  simp only [List.drop_zero, List.take_succ_cons, List.take_zero]
  (refine wpQE_step (fun K hK => ?_); go_simp; refine hK _ ?_; clear hK K)
  (refine wpQE_step (fun K hK => ?_); go_simp; apply Exists.intro; refine ⟨fun l => ?_, hK _ ?_⟩; (go_at_call 50; refine (len_any tos id _ _ frag ttl proto false 0 slo false 0 dlo A n c _ hnb).mono ?_; rintro e w' ⟨rfl, hb⟩; exact ⟨rfl, hb⟩); clear hK K)
  iterate 6 (refine wpQE_step (fun K hK => ?_); go_simp; refine hK _ ?_; clear hK K)
  refine wpQE_nil ?_
  obtain ⟨sz, hsz⟩ : ∃ sz, (20 + n) / 4 = sz := ⟨_, rfl⟩
  have r1 : IntKind.i64.wrap ((20 + (n : Int)).tdiv 4) = (sz : Int) := by
    rw [Int.tdiv_eq_ediv_of_nonneg (by omega)]
    rw [wraps62 _ (by omega) (by omega)]
    omega
  have r2 : bits .or .i64 64 (sz : Int) = ((64 + sz : Nat) : Int) := by rw [i64_or64 _ (by omega) (by omega)]; omega
  have r3 : IntKind.u8.wrap ((64 + sz : Nat) : Int) = ((64 + sz : Nat) : Int) := wraps_u8 _ (by omega) (by omega)
  have r4 : IntKind.u8.wrap (tos : Int) = (tos : Int) := wraps_u8 _ (by omega) (by omega)
  rw [r1, r2, r3, r4]
  clear r1 r2 r3 r4 hcl
  refine wpE_step 8 (fuel := 1) rfl (by kernel_rfl) (fun l K hK => ?_)
  go_simp
  have hzl : B ≤ l.w.heap.size := Nat.le_trans hz2 l.hb.size
  have hown0 : OwnB (l.w.alloc (.cells #[.int .u8 ((64 + sz : Nat) : Int), .int .u8 (tos : Int)] 5)) B (.slice (some ⟨l.w.heap.size, 0, none⟩) 2 2) [UInt8.ofNat (64 + sz), UInt8.ofNat tos] :=
    OwnB.litv l.w B _ _ 2 (by simp only [List.map_cons, List.map_nil]; rw [u8v_nat _ (by omega), u8v_nat _ (by omega)]) rfl hzl (by omega)
  obtain ⟨v3, hv3⟩ : ∃ v3, Value.slice (some ⟨l.w.heap.size, 0, none⟩) 2 2 = v3 := ⟨_, rfl⟩
  obtain ⟨w3, hw3⟩ : ∃ w3, l.w.alloc (.cells #[.int .u8 ((64 + sz : Nat) : Int), .int .u8 (tos : Int)] 5) = w3 := ⟨_, rfl⟩
  have hb3 : Below l.w.heap.size l.w w3 := hw3 ▸ (Below.refl _ _).alloc (Nat.le_refl _) _
  rw [hw3, hv3] at hown0
  refine hK _ _ (by simpa [LaterThan] using hw3 ▸ hb3) ?_
  clear hK K
  have hw3' : (l.w.alloc (.cells #[.int .u8 (64 + (sz : Int)), .int .u8 (tos : Int)] 5)) = w3 := by rw [← hw3]; simp
  rw [hw3', hv3]
  clear hw3 hw3' hv3
  refine wpE_end (by kernel_rfl) (fun l2 => ?_)
  refine wpT_step 9 rfl (by kernel_rfl) (fun K hK => ?_)
  go_simp
  refine hK _ _ ?_
  clear hK K
  refine wpT_done (by kernel_rfl) ?_ 0
  obtain ⟨w4, hw4⟩ : ∃ w4, l2.w = w4 := ⟨_, rfl⟩
  have hown4 : OwnB w4 B v3 _ := hw4 ▸ hown0.below l2.hb
  have hb4 : Below B w2 w4 := hw4 ▸ ((l.hb.mono hz2).trans (hb3.mono hzl)).trans (l2.hb.mono (Nat.le_trans hzl hb3.size))
  rw [hw4]
  clear hw4 hown0 hb3
  have hz4 : B ≤ w4.heap.size := Nat.le_trans hz2 hb4.size
  have hbox4 := blk_below hb4 hltB hbox2.out
  replace hown4 := hide hown4
  replace hbox4 := hide hbox4
  have hcl4 : ∀ (l : Later w4) (o : Nat), l.w.cell? ⟨w.heap.size, o, none⟩ = _ := fun l o => blk_cell (blk_below l.hb (Nat.lt_of_lt_of_le hltB hz4) hbox4.out) o
  go_wp2_with fail
  refine wp_region_L (by kernel_rfl) ?_
  refine wpE_seg 0 11 (fuel := 3) (by kernel_rfl) (fun d _ _ _ _ h => by cases d <;> exact h) (by kernel_rfl) (by kernel_rfl) ?_
  simp only [List.drop_zero, List.take_succ_cons, List.take_zero]
  iterate 2 (refine wpQE_step (fun K hK => ?_); go_simp; refine hK _ ?_; clear hK K)
  (refine wpQE_step (fun K hK => ?_); go_simp; apply Exists.intro; refine ⟨fun l => ?_, hK _ ?_⟩; (go_at_call 50; refine (len_any tos id _ _ frag ttl proto false 0 slo false 0 dlo A n c _ hnb).mono ?_; rintro e w' ⟨rfl, hb⟩; exact ⟨rfl, hb⟩); clear hK K)
  iterate 8 (refine wpQE_step (fun K hK => ?_); go_simp; refine hK _ ?_; clear hK K)
  refine wpQE_nil ?_
  clear hcl4
  refine wpE_step 11 (fuel := 2) rfl (by kernel_rfl) (fun l K hK => ?_)
  go_simp
  obtain ⟨T, hT⟩ : ∃ T, 20 + n + m = T := ⟨_, rfl⟩
  have r5 : IntKind.i64.wrap (20 + (n : Int) + (m : Int)) = (T : Int) := by rw [wraps62 _ (by omega) (by omega)]; omega
  have r6 : IntKind.u64.wrap (T : Int) = (T : Int) := wrapsu64 _ (by omega) (by omega)
  have r7 : IntKind.u64.wrap (id : Int) = (id : Int) := wrapsu64 _ (by omega) (by omega)
  rw [r5, r6, r7]
  clear r5 r6 r7
  obtain ⟨w5, hw5⟩ : ∃ w5, l.w.alloc (.cells #[.int .u64 (T : Int), .int .u64 (id : Int), .int .u64 (fl : Int)] 24) = w5 := ⟨_, rfl⟩
  have hzl4 := l.hb.size
  have hiv5 : IsV w5 (l.w.heap.size + 1) 1 (some ⟨l.w.heap.size, 0, none⟩) 3 (([T, id, fl] : List Nat).map u64v) := hw5 ▸ IsV.lit l.w 24 [.int .u64 (T : Int), .int .u64 (id : Int), .int .u64 (fl : Int)] 3 3 rfl
  have hb5 : Below l.w.heap.size l.w w5 := hw5 ▸ (Below.refl _ _).alloc (Nat.le_refl _) _
  have hz5 : w5.heap.size = l.w.heap.size + 1 := by rw [← hw5]; simp
  rw [hw5]
  refine hK _ _ hb5 ?_
  clear hK K
  clear hw5
  refine wpE_end (by kernel_rfl) (fun l2 => ?_)
  refine wpT_step 12 rfl (by kernel_rfl) (fun K hK => ?_)
  go_simp
  go_at_call 78
  have hb6 : Below w4.heap.size w4 l2.w := (l.hb.trans (hb5.mono hzl4)).trans (l2.hb.mono (by omega))
  have hown6 := hown4.out.below hb6
  have hz6 := hb6.size
  refine (all_any B _ _ 2 _ rfl _ 3 _ [T, id, fl] _ hown6 (Nat.le_trans hz4 hz6) (by omega) (by simp) (l.w.heap.size + 1) (hiv5.below (l2.hb.mono (by omega))) ?_ (by have := l2.hb.size; omega) (by omega) ?_).mono ?_
  · intro b off he e
    cases he
    have := (hown4.out.lt _ e.symm).2
    omega
  · intro N hN
    simp only [List.mem_cons, List.not_mem_nil, or_false] at hN
    omega
  rintro e w7 ⟨v7, rfl, hown7, hg7⟩
  refine hK _ _ ?_
  clear hK K
  refine wpT_step 13 rfl (by kernel_rfl) (fun K hK => ?_)
  go_simp
  refine hK _ _ ?_
  clear hK K
  refine wpT_done (by kernel_rfl) ?_ 0
  have hb7 : Below B w2 w7 := (hb4.trans (hb6.mono hz4)).trans (hg7.below hown6 (Nat.le_trans hz4 hz6))
  have hz7 : B ≤ w7.heap.size := Nat.le_trans hz2 hb7.size
  have hbox7 := blk_below hb7 hltB hbox2.out
  have hcg7 := blk_cell hbox7
  have hv8 : [Value.int .u8 (ttl : Int), .int .u8 (proto : Int), .int .u8 0, .int .u8 0] = ([UInt8.ofNat ttl, UInt8.ofNat proto, 0, 0] : List UInt8).map u8v := by
    simp only [List.map_cons, List.map_nil]
    rw [u8v_nat _ (by omega), u8v_nat _ (by omega)]
    rfl
  clear hb6 hown6 hg7 hb5 hiv5 hcg2
  replace hb4 := hide hb4
  replace hv8 := hide hv8
  replace hown7 := hide hown7
  replace hb7 := hide hb7
  replace hbox7 := hide hbox7
  replace hsz := hide hsz
  go_wp2_with (at_builtin; refine wpl_lit_bv rfl (.tmp 52) (.tmp 59) rfl B _ _ [UInt8.ofNat ttl, UInt8.ofNat proto, 0, 0] _ _ rfl rfl ?_ ?_ hown7.out ?_ ?_ ?_)
  · exact hv8.out
  · rfl
  · exact hz7
  · simp [beB_length, allB_length]
  intro v8 w8 hown8 hg8
  have hb8 := hb7.out.trans (hg8.below hown7.out hz7)
  have hz8 := Nat.le_trans hz2 hb8.size
  have hbox8 := blk_below hb8 hltB hbox2.out
  have hcg8 := blk_cell hbox8
  clear hcg7 hg8
  replace hown8 := hide hown8
  replace hb8 := hide hb8
  replace hbox8 := hide hbox8
  go_wp2_with fail
  refine (all_lit B _ _ 4 _ rfl [slo, dlo] _ rfl 2 _ rfl _ _ _ rfl hown8.out hz8 (by omega) (by simp [beB_length, allB_length]) (by omega) ?_).mono ?_
  · intro N hN
    simp only [List.mem_cons, List.not_mem_nil, or_false] at hN
    omega
  rintro e w9 ⟨v9, rfl, hown9, hg9⟩
  have hb9 := hb8.out.trans (hg9.below hown8.out hz8)
  have hz9 := Nat.le_trans hz2 hb9.size
  have hbox9 := blk_below hb9 hltB hbox2.out
  have hcg9 := blk_cell hbox9
  have h0B : w.heap.size ≤ B := by omega
  have ho9 := ho.out.below (hw2.out.trans (hb9.mono h0B))
  clear hcg8 hg9
  replace hown9 := hide hown9
  replace hb9 := hide hb9
  replace hbox9 := hide hbox9
  replace ho9 := hide ho9
  go_wp2_with (at_builtin; refine wpl_src_bv rfl (.tmp 70) (.tmp 72) rfl B _ _ os A n c w.heap.size rfl rfl hown9.out ho9.out ?_ ?_ ?_)
  · exact hz9
  · simp [beB_length, allB_length]; omega
  intro v10 w10 hown10 hg10
  have hb10 := hb9.out.trans (hg10.below hown9.out hz9)
  have hz10 := Nat.le_trans hz2 hb10.size
  have hown10' : OwnB w10 B v10 (hdB0 tos id fl ttl proto slo dlo os m) := by
    unfold hdB0
    rw [hno.out, hsz.out, hT]
    simpa [allB] using hown10
  have hlen : (hdB0 tos id fl ttl proto slo dlo os m).length = 20 + n := by rw [hdB0_length, hno.out]
  obtain ⟨A10, c10, rfl, hc10, hm10, hi10⟩ := hown10'.form
  rw [hlen] at hc10 hi10 hown10' ⊢
  clear hg10 hown10 hcg9
  replace hown10' := hide hown10'
  replace hi10 := hide hi10
  replace hlen := hide hlen
  replace hb10 := hide hb10
  go_wp2_with fail
  refine (Sum.check_any _ _ _ [⟨A10, c10, hdB0 tos id fl ttl proto slo dlo os m⟩] _ (isP_one _ rfl hi10.out (by unfold maxLen; omega)) (by unfold maxLen; omega)).mono ?_
  rintro e w' ⟨rfl, rfl⟩
  have hfl1 : Sum.flat [(⟨A10, c10, hdB0 tos id fl ttl proto slo dlo os m⟩ : Sum.Part)] = hdB0 tos id fl ttl proto slo dlo os m := by simp [Sum.flat]
  rw [hfl1]
  clear hfl1
  obtain ⟨C, hC⟩ : ∃ C, 65535 - Sum.ones (Sum.tot false (hdB0 tos id fl ttl proto slo dlo os m)) = C := ⟨_, rfl⟩
  rw [hC]
  have hCl : C ≤ 65535 := by omega
  replace hC := hide hC
  go_wp2_with fail
  refine (set_in A10 (20 + n) c10 (hdB0 tos id fl ttl proto slo dlo os m) 10 C 2 _ _ _ rfl rfl rfl _ (hi10.out.alloc _) (by omega) (by omega) (by omega) (by omega) (by omega)).mono ?_
  rintro e w11 ⟨v11, rfl, hown11, hb11⟩
  have hb11' : Below w10.heap.size w10 w11 := ((Below.refl _ _).alloc (Nat.le_refl _) _).trans (hb11.mono (by simp))
  have hB11 := hb10.out.trans (hb11'.mono hz10)
  have hown11' : OwnB w11 B v11 (hdB tos id fl ttl proto slo dlo os m) := by
    have h1 := hown11.weaken (base' := B) (by simp; omega)
    unfold hdB
    rw [hC.out]
    exact h1
  have hz11 := Nat.le_trans hz2 hB11.size
  have hp11 := hp.out.below (hw2.out.trans (hB11.mono h0B))
  have hlen2 : (hdB tos id fl ttl proto slo dlo os m).length + m ≤ 1099511627776 := by
    rw [hdB_length, hno.out]
    omega
  clear hown11 hb11 hb11'
  replace hown11' := hide hown11'
  replace hp11 := hide hp11
  replace hB11 := hide hB11
  go_wp2_with (at_builtin; refine wpl_src_bv rfl (.tmp 80) (.tmp 81) rfl B _ _ ps P m d w.heap.size rfl rfl hown11'.out hp11.out ?_ ?_ ?_)
  · exact hz11
  · exact hlen2
  intro v12 w12 hown12 hg12
  have hb12 := hw2.out.trans ((hB11.out.trans (hg12.below hown11'.out hz11)).mono h0B)
  replace hown12 := hide hown12
  replace hb12 := hide hb12
  clear hg12
  go_wp2_with fail
  go_ret2
  exact ⟨v12, rfl, hown12.out.weaken h0B, hb12.out⟩
end Four
end Go.Proofs.Ytdmgbngdpjcliaa
