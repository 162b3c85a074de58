/- FourQuotes: what goes into a check. Conditions: numbers of 64 bits. -/
import Derived.Test.YtniieckjooahfaaFourQuotesBase
namespace Go.Proofs.Ytniieckjooahfaa
open Go.RowKit Go.ChangeShapes Go.WideShapes Go.ChangeAt Go.Deep
namespace Four
theorem pay_eq {shn dhn : Nat} (sln dln p1 s1 z1 z0 : Nat) (h1 : z1 = s1 / 256 % 256) (h0 : z0 = s1 % 256) : (addrB false shn sln ++ addrB false dhn dln) ++ [0, UInt8.ofNat p1, UInt8.ofNat z1, UInt8.ofNat z0] = ((beB sln 4 ++ beB dln 4) ++ [0, UInt8.ofNat p1]) ++ beB s1 2 := by
  subst h1 h0
  simp [addrB, beB, ofNat_mod]
set_option maxRecDepth 20000 in
set_option maxHeartbeats 8000000 in
theorem quotes_tail2 (w wc wi : World) (v5 : Value) (shn sln dhn dln : Nat) (proto0 size0 : Int) (hltc : w.heap.size + 1 < wc.heap.size)
    (hgsc : Hid (wc.heap[w.heap.size]? = some (.cells #[.bool false, .int .u64 shn, .int .u64 sln] 24 (0, 0)))) (hgdc : Hid (wc.heap[w.heap.size + 1]? = some (.cells #[.bool false, .int .u64 dhn, .int .u64 dln] 24 (0, 0))))
    (hBw : Hid (Below w.heap.size w wc)) (us2 : Hid (sln < 18446744073709551616)) (us4 : Hid (dln < 18446744073709551616)) (hw6 : Hid ((Lit.int .i64 size0).wf = true))
    (hown5 : Hid (OwnB wi wc.heap.size v5 (addrB false shn sln ++ addrB false dhn dln))) (hB5 : Hid (Below wc.heap.size wc wi)) (x0 x1 x2 x5 x8 x9 x10 x11 x12 x13 x14 x15 x17 x18 x19 x20 x21 x22 x23 x24 x25 x26 x27 x28 x29 x30 x31 x32 x33 x34 x35 x36 x37 x38 x39 x40 x41 x42 x43 x44 x45 x46 x47 x48 x49 x50 x51 x52 x53 x54 x55 x56 x57 x58 x59 x60 x61 x62 x63 x64 x65 x66 x67 x68 x69 x70 x71 x72 x73 x74 x75 x76 x77 x78 x79 x80 x81 x82 x83 x84 x85 x86 x87 x88 x89 x90 x91 x92 x93 x94 x95 x96 x97 x98 x99 x100 x101 x102 x103 x104 x105 x106 x107 x108 x109 x110 x111 x112 x113 x114 x115 x116 x117 x118 x119 x120 x121 x122 x123 x124 x125 x126 x127 x128 x129 x130 x131 x132 x133 x134 x135 x136 x137 x138 x139 x140 x141 x142 x143 x144 x145 x146 x147 x148 x149 x150 x151 x152 x153 x154 x155 x156 x157 x158 x159 x160 x161 x162 x163 x164 x165 x166 : Value) :
    Code.wp Try.prog (restFrom 17 Try.f13.body) (bodyPost Try.prog Try.f13 fun e w' => e = .returned (.bool true) ∧ Below w.heap.size w w') ⟨#[x0, x1, x2, .int .i64 proto0, .int .i64 size0, x5, .pointer (some ⟨w.heap.size, 0, none⟩), .pointer (some ⟨w.heap.size + 1, 0, none⟩), x8, x9, x10, x11, x12, x13, x14, x15, v5, x17, x18, x19, x20, x21, x22, x23, x24, x25, x26, x27, x28, x29, x30, x31, x32, x33, x34, x35, x36, x37, x38, x39, x40, x41, x42, x43, x44, x45, x46, x47, x48, x49, x50, x51, x52, x53, x54, x55, x56, x57, x58, x59, x60, x61, x62, x63, x64, x65, x66, x67, x68, x69, x70, x71, x72, x73, x74, x75, x76, x77, x78, x79, x80, x81, x82, x83, x84, x85, x86, x87, x88, x89, x90, x91, x92, x93, x94, x95, x96, x97, x98, x99, x100, x101, x102, x103, x104, x105, x106, x107, x108, x109, x110, x111, x112, x113, x114, x115, x116, x117, x118, x119, x120, x121, x122, x123, x124, x125, x126, x127, x128, x129, x130, x131, x132, x133, x134, x135, x136, x137, x138, x139, x140, x141, x142, x143, x144, x145, x146, x147, x148, x149, x150, x151, x152, x153, x154, x155, x156, x157, x158, x159, x160, x161, x162, x163, x164, x165, x166], []⟩ wi := by
  obtain ⟨p1, hp1⟩ : ∃ z : Nat, proto0 % 256 = (z : Int) := ⟨(proto0 % 256).toNat, by omega⟩
  obtain ⟨z1, hz1⟩ : ∃ z : Nat, size0 / 256 % 256 = (z : Int) := ⟨(size0 / 256 % 256).toNat, by omega⟩
  obtain ⟨z0, hz0⟩ : ∃ z : Nat, size0 % 256 = (z : Int) := ⟨(size0 % 256).toNat, by omega⟩
  obtain ⟨s1, hs1⟩ : ∃ z : Nat, size0 % 18446744073709551616 = (z : Int) := ⟨(size0 % 18446744073709551616).toNat, by omega⟩
  have hs1' : IntKind.u64.wrap size0 = (s1 : Int) := by rw [IntKind.wrap_u64]; exact hs1
  have e1 : z1 = s1 / 256 % 256 := by omega
  have e0 : z0 = s1 % 256 := by omega
  have hs2 : s1 < 18446744073709551616 := by omega
  have hp3 : p1 ≤ 255 := by omega
  have hz13 : z1 ≤ 255 := by omega
  have hz03 : z0 ≤ 255 := by omega
  have hpay := pay_eq (shn := shn) (dhn := dhn) sln dln p1 s1 z1 z0 e1 e0
  have hvals : [Value.int .u8 0, .int .u8 (p1 : Int), .int .u8 (z1 : Int), .int .u8 (z0 : Int)] = ([0, UInt8.ofNat p1, UInt8.ofNat z1, UInt8.ofNat z0] : List UInt8).map u8v := by
    simp only [List.map_cons, List.map_nil]
    rw [u8v_nat _ hp3, u8v_nat _ hz13, u8v_nat _ hz03]
    rfl
  replace hs2 := hide hs2
  replace hs1' := hide hs1'
  clear hs1 e1 e0
  replace hpay := hide hpay
  replace hvals := hide hvals
  have hp1' := hide hp1
  have hzz := hB5.out.size
  conv => arg 2; whnf
  go_wp2_with (at_builtin; refine wpl_lit_bv rfl (.tmp 145) (.tmp 153) rfl wc.heap.size _ _ [0, UInt8.ofNat p1, UInt8.ofNat z1, UInt8.ofNat z0] _ _ rfl rfl ?_ ?_ hown5.out ?_ ?_ ?_)
  · exact hvals.out
  · rfl
  · exact hzz
  · have h1 := addrB_length false shn sln
    have h2 := addrB_length false dhn dln
    simp
    omega
  intro v6 w6 hown6 hg6
  have hb6 := hB5.out.trans (hg6.below hown5.out hzz)
  have hown6' : OwnB w6 wc.heap.size v6 (((beB sln 4 ++ beB dln 4) ++ [0, UInt8.ofNat p1]) ++ beB s1 2) := by
    rw [← hpay.out]
    exact hown6
  have hl6 : ((((beB sln 4 ++ beB dln 4) ++ [0, UInt8.ofNat p1]) ++ beB s1 2)).length = 12 := by simp [beB_length]
  replace hl6 := hide hl6
  obtain ⟨A6, c6, rfl, _, _, hi6⟩ := hown6'.form
  rw [hl6.out] at hi6 ⊢
  obtain ⟨zz, hzz'⟩ : ∃ zz, str (((beB sln 4 ++ beB dln 4) ++ [0, UInt8.ofNat p1]) ++ beB s1 2) = zz := ⟨_, rfl⟩
  have hs6 := fun l : Later w6 => (hi6.later l).str c6
  rw [hzz'] at hs6
  have hcl : ∀ (l : Later w6) (o : Nat), l.w.cell? ⟨w.heap.size, o, none⟩ = _ := fun l o => blk_cell (blk_below l.hb (by have := hb6.size; omega) (blk_below hb6 (by omega) hgsc.out)) o
  have hcl' : ∀ (l : Later w6) (o : Nat), l.w.cell? ⟨w.heap.size + 1, o, none⟩ = _ := fun l o => blk_cell (blk_below l.hb (by have := hb6.size; omega) (blk_below hb6 hltc hgdc.out)) o
  clear hown6 hown6' hi6 hg6 hp1 hz1 hz0 hown5
  replace hb6 := hide hb6
  replace hzz' := hide hzz'
  go_wp2_with fail
  refine wp_region_L (by as_aux_lemma => kernel_rfl) ?_
  refine wpE_seg 0 4 (fuel := 9) (by as_aux_lemma => kernel_rfl) (fun d _ _ _ _ h => by cases d <;> exact h) (by as_aux_lemma => kernel_rfl) (by as_aux_lemma => kernel_rfl) ?_
  simp only [List.drop_succ_cons, List.drop_zero, List.take_succ_cons, List.take_zero]
  iterate 4 (refine wpQE_step (fun K hK => ?_); go_simp; refine hK _ ?_; clear hK K)
  refine wpQE_nil ?_
  refine wpE_seg 6 2 (fuel := 7) (by as_aux_lemma => kernel_rfl) (fun d _ _ _ _ h => by cases d <;> exact h) (by as_aux_lemma => kernel_rfl) (by as_aux_lemma => kernel_rfl) ?_
  simp only [List.drop_succ_cons, List.drop_zero, List.take_succ_cons, List.take_zero]
  iterate 2 (refine wpQE_step (fun K hK => ?_); go_simp; refine hK _ ?_; clear hK K)
  refine wpQE_nil ?_
  refine wpE_step 4 (fuel := 6) rfl (by as_aux_lemma => kernel_rfl) (fun l K hK => ?_)
  go_simp
  go_at_call 58
  refine (pseudo_any false shn sln false dhn dln proto0 size0 p1 s1 hp1'.out hs1'.out _ us2.out us4.out hs2.out).mono ?_
  rintro e w7 ⟨v7, rfl, hown7, hb7⟩
  refine hK _ _ hb7 ?_
  clear hK K
  have hb67 : Below w6.heap.size w6 w7 := l.hb.trans (hb7.mono l.hb.size)
  obtain ⟨A7, c7, rfl, _, _, hi7⟩ := hown7.form
  rw [hl6.out] at hi7 ⊢
  have hs7 := fun l : Later w7 => (hi7.later l).str c7
  rw [hzz'.out] at hs7
  clear hcl hcl' hs6 hi7 hown7 hb7
  replace hb67 := hide hb67
  refine wpE_seg 5 1 (fuel := 5) (by as_aux_lemma => kernel_rfl) (fun d _ _ _ _ h => by cases d <;> exact h) (by as_aux_lemma => kernel_rfl) (by as_aux_lemma => kernel_rfl) ?_
  simp only [List.drop_succ_cons, List.drop_zero, List.take_succ_cons, List.take_zero]
  iterate 1 (refine wpQE_step (fun K hK => ?_); go_simp; refine hK _ ?_; clear hK K)
  refine wpQE_nil ?_
  refine wpE_seg 8 5 (fuel := 0) (by as_aux_lemma => kernel_rfl) (fun d _ _ _ _ h => by cases d <;> exact h) (by as_aux_lemma => kernel_rfl) (by as_aux_lemma => kernel_rfl) ?_
  simp only [List.drop_succ_cons, List.drop_zero, List.take_succ_cons, List.take_zero]
  iterate 2 (refine wpQE_step (fun K hK => ?_); go_simp; refine hK _ ?_; clear hK K)
  (refine wpQE_step (fun K hK => ?_); go_simp; apply Exists.intro; refine ⟨fun l => ?_, hK _ ?_⟩; (go_at_call 48; refine (awake_any _).mono ?_; rintro e w' ⟨rfl, hb⟩; exact ⟨rfl, hb⟩); clear hK K)
  iterate 2 (refine wpQE_step (fun K hK => ?_); go_simp; refine hK _ ?_; clear hK K)
  refine wpQE_nil ?_
  refine wpE_done (by as_aux_lemma => kernel_rfl) (fun w8 hw8 => ?_) 0
  have hb8 := hBw.out.trans ((hb6.out.trans ((hb67.out.trans (hw8.mono hb67.out.size)).mono hb6.out.size)).mono hBw.out.size)
  replace hb8 := hide hb8
  clear hw8 hs7
  go_wp2_with fail
  go_ret
  exact ⟨rfl, hb8.out⟩
set_option maxRecDepth 20000 in
set_option maxHeartbeats 8000000 in
theorem quotes_tail (w w1 wc : World) (sv : Bool) (shi slo0 : Int) (dv : Bool) (dhi dlo0 : Int) (proto0 size0 : Int) (hb1 : Hid (Below w.heap.size w w1)) (hz1 : Hid (w1.heap.size = w.heap.size + 2))
    (hgs : Hid (w1.heap[w.heap.size]? = some (.cells #[.bool sv, .int .u64 shi, .int .u64 slo0] 24 (0, 0)))) (hgd : Hid (w1.heap[w.heap.size + 1]? = some (.cells #[.bool dv, .int .u64 dhi, .int .u64 dlo0] 24 (0, 0))))
    (hw1 : Hid ((Lit.int .u64 shi).wf = true)) (hw2 : Hid ((Lit.int .u64 slo0).wf = true)) (hw3 : Hid ((Lit.int .u64 dhi).wf = true)) (hw4 : Hid ((Lit.int .u64 dlo0).wf = true)) (hw5 : Hid ((Lit.int .i64 proto0).wf = true)) (hw6 : Hid ((Lit.int .i64 size0).wf = true))
    (hBc : Below w1.heap.size w1 wc) (x0 x5 x8 x9 x10 x11 x12 x13 x14 x15 x16 x17 x18 x19 x20 x21 x22 x23 x24 x25 x26 x27 x28 x29 x30 x31 x32 x33 x34 x35 x36 x37 x38 x39 x40 x41 x42 x43 x44 x45 x46 x47 x48 x49 x50 x51 x52 x53 x54 x55 x56 x57 x58 x59 x60 x61 x62 x63 x64 x65 x66 x67 x68 x69 x70 x71 x72 x73 x74 x75 x76 x77 x78 x79 x80 x81 x82 x83 x84 x85 x86 x87 x88 x89 x90 x91 x92 x93 x94 x95 x96 x97 x98 x99 x100 x101 x102 x103 x104 x105 x106 x107 x108 x109 x110 x111 x112 x113 x114 x115 x116 x117 x118 x119 x120 x121 x122 x123 x124 x125 x126 x127 x128 x129 x130 x131 x132 x133 x134 x135 x136 x137 x138 x139 x140 x141 x142 x143 x144 x145 x146 x147 x148 x149 x150 x151 x152 x153 x154 x155 x156 x157 x158 x159 x160 x161 x162 x163 x164 x165 x166 : Value) :
    Code.wp Try.prog (restFrom 14 Try.f13.body) (bodyPost Try.prog Try.f13 fun e w' => e = .returned (.bool true) ∧ Below w.heap.size w w') ⟨#[x0, .agg #[.bool sv, .int .u64 shi, .int .u64 slo0], .agg #[.bool dv, .int .u64 dhi, .int .u64 dlo0], .int .i64 proto0, .int .i64 size0, x5, .pointer (some ⟨w.heap.size, 0, none⟩), .pointer (some ⟨w.heap.size + 1, 0, none⟩), x8, x9, x10, x11, x12, x13, x14, x15, x16, x17, x18, x19, x20, x21, x22, x23, x24, x25, x26, x27, x28, x29, x30, x31, x32, x33, x34, x35, x36, x37, x38, x39, x40, x41, x42, x43, x44, x45, x46, x47, x48, x49, x50, x51, x52, x53, x54, x55, x56, x57, x58, x59, x60, x61, x62, x63, x64, x65, x66, x67, x68, x69, x70, x71, x72, x73, x74, x75, x76, x77, x78, x79, x80, x81, x82, x83, x84, x85, x86, x87, x88, x89, x90, x91, x92, x93, x94, x95, x96, x97, x98, x99, x100, x101, x102, x103, x104, x105, x106, x107, x108, x109, x110, x111, x112, x113, x114, x115, x116, x117, x118, x119, x120, x121, x122, x123, x124, x125, x126, x127, x128, x129, x130, x131, x132, x133, x134, x135, x136, x137, x138, x139, x140, x141, x142, x143, x144, x145, x146, x147, x148, x149, x150, x151, x152, x153, x154, x155, x156, x157, x158, x159, x160, x161, x162, x163, x164, x165, x166], []⟩ wc := by
  conv => arg 2; whnf
  have hzc := hBc.size
  have hgsc := blk_below hBc (by have := hz1.out; omega) hgs.out
  have hgdc := blk_below hBc (by have := hz1.out; omega) hgd.out
  have hBw := hb1.out.trans (hBc.mono hb1.out.size)
  clear hBc
  replace hgsc := hide hgsc
  replace hgdc := hide hgdc
  replace hBw := hide hBw
  have hcs := blk_cell hgsc.out
  have hcd := blk_cell hgdc.out
  by_cases hv6 : (sv || dv) = true
  · rcases sv with _ | _
    · rcases dv with _ | _
      · cases hv6
      · go_wp2_with fail
        refine (awake_any _).mono ?_
        rintro e w9 ⟨rfl, hb9⟩
        replace hb9 := hide hb9
        go_wp2_with fail
        go_ret
        exact ⟨rfl, hBw.out.trans (hb9.out.mono hBw.out.size)⟩
    · go_wp2_with fail
      refine (awake_any _).mono ?_
      rintro e w9 ⟨rfl, hb9⟩
      replace hb9 := hide hb9
      go_wp2_with fail
      go_ret
      exact ⟨rfl, hBw.out.trans (hb9.out.mono hBw.out.size)⟩
  have hsv : sv = false := by cases sv <;> simp_all
  have hdv : dv = false := by cases dv <;> simp_all
  subst hsv hdv
  clear hv6
  obtain ⟨shn, hshn⟩ : ∃ z : Nat, shi = (z : Int) := ⟨shi.toNat, by have := (u64_wf hw1.out).1; omega⟩
  obtain ⟨sln, hsln⟩ : ∃ z : Nat, slo0 = (z : Int) := ⟨slo0.toNat, by have := (u64_wf hw2.out).1; omega⟩
  obtain ⟨dhn, hdhn⟩ : ∃ z : Nat, dhi = (z : Int) := ⟨dhi.toNat, by have := (u64_wf hw3.out).1; omega⟩
  obtain ⟨dln, hdln⟩ : ∃ z : Nat, dlo0 = (z : Int) := ⟨dlo0.toNat, by have := (u64_wf hw4.out).1; omega⟩
  subst hshn hsln hdhn hdln
  have us1 : shn < 18446744073709551616 := by have := (u64_wf hw1.out).2; omega
  have us2 : sln < 18446744073709551616 := by have := (u64_wf hw2.out).2; omega
  have us3 : dhn < 18446744073709551616 := by have := (u64_wf hw3.out).2; omega
  have us4 : dln < 18446744073709551616 := by have := (u64_wf hw4.out).2; omega
  replace us1 := hide us1
  replace us2 := hide us2
  replace us3 := hide us3
  replace us4 := hide us4
  go_wp2_with fail
  obtain ⟨wd, hwd⟩ : ∃ wd, wc.drew = wd := ⟨_, rfl⟩
  have hbd : Below wc.heap.size wc wd := hwd ▸ (Below.refl _ _).drew
  have hltc : w.heap.size + 1 < wc.heap.size := by have := hz1.out; omega
  have hcl : ∀ (l : From wc.heap.size wd) (o : Nat), l.w.cell? ⟨w.heap.size, o, none⟩ = _ := fun l o => blk_cell (blk_below (hbd.trans l.hb) (by omega) hgsc.out) o
  have hcl' : ∀ (l : From wc.heap.size wd) (o : Nat), l.w.cell? ⟨w.heap.size + 1, o, none⟩ = _ := fun l o => blk_cell (blk_below (hbd.trans l.hb) hltc hgdc.out) o
  refine wp_region_F (Below wc.heap.size) (by as_aux_lemma => kernel_rfl) ?_
  rw [hwd]
  clear hwd
  refine wpB_seg wc.heap.size 1 1 (fuel := 7) (by as_aux_lemma => kernel_rfl) (fun d _ _ _ _ h => by cases d <;> exact h) (by as_aux_lemma => kernel_rfl) (by as_aux_lemma => kernel_rfl) ?_
  simp only [List.drop_succ_cons, List.drop_zero, List.take_succ_cons, List.take_zero]
  iterate 1 (refine wpQB_step (fun K hK => ?_); go_simp; refine hK _ ?_; clear hK K)
  refine wpQF_nil ?_
  refine wpB_seg wc.heap.size 4 1 (fuel := 6) (by as_aux_lemma => kernel_rfl) (fun d _ _ _ _ h => by cases d <;> exact h) (by as_aux_lemma => kernel_rfl) (by as_aux_lemma => kernel_rfl) ?_
  simp only [List.drop_succ_cons, List.drop_zero, List.take_succ_cons, List.take_zero]
  iterate 1 (refine wpQB_step (fun K hK => ?_); go_simp; refine hK _ ?_; clear hK K)
  refine wpQF_nil ?_
  clear hcl hcl'
  refine wpF_two 0 2 (fuel := 5) rfl rfl (by as_aux_lemma => kernel_rfl) (fun K hK => ?_) (fun K hK => ?_)
  · go_simp
    have hv0 : OwnB (wd.alloc (.cells #[] 5)) wc.heap.size (.slice (some ⟨wd.heap.size, 0, none⟩) 0 0) [] := OwnB.empty wd _ hbd.size
    have hbe : Below wc.heap.size wd (wd.alloc (.cells #[] 5)) := (Below.refl _ _).alloc hbd.size _
    obtain ⟨v0, hv0'⟩ : ∃ v0, Value.slice (some ⟨wd.heap.size, 0, none⟩) 0 0 = v0 := ⟨_, rfl⟩
    obtain ⟨we, hwe⟩ : ∃ we, wd.alloc (.cells #[] 5) = we := ⟨_, rfl⟩
    rw [hwe] at hv0 hbe ⊢
    rw [hv0'] at hv0 ⊢
    refine hK _ _ hbe ?_
    clear hK K hwe hv0'
    refine wpF_step 2 (fuel := 4) rfl (by as_aux_lemma => kernel_rfl) (fun K hK => ?_)
    go_simp
    go_at_call 57
    refine (addrBytes_any false shn sln _ us1.out us2.out).mono ?_
    rintro e wf ⟨v2, rfl, hown2, hbf⟩
    have hbef : Below wc.heap.size we wf := hbf.mono (Nat.le_trans hbd.size hbe.size)
    refine hK _ _ hbef ?_
    clear hK K
    have hv0 := hv0.below hbf
    have hbW := hbd.trans (hbe.trans hbef)
    obtain ⟨A2', c2', rfl, _, _, hi2⟩ := hown2.form
    clear hown2 hbf hbe hbef
    refine wpF_src 3 (fuel := 3) rfl (by as_aux_lemma => kernel_rfl) rfl (.tmp 138) (.tmp 140) rfl wc.heap.size _ _ _ _ _ _ _ rfl rfl hv0 hi2 hbW.size ?_ ?_
    · simpa using Nat.le_trans (addrB_length false shn sln) (by omega)
    intro v3 wg hown3 hbg
    have hbG := hbW.trans hbg
    refine wpF_step 5 (fuel := 2) rfl (by as_aux_lemma => kernel_rfl) (fun K hK => ?_)
    go_simp
    go_at_call 57
    refine (addrBytes_any false dhn dln _ us3.out us4.out).mono ?_
    rintro e wh ⟨v4, rfl, hown4, hbh⟩
    have hbH : Below wc.heap.size wg wh := hbh.mono hbG.size
    refine hK _ _ hbH ?_
    clear hK K
    have hown3 := hown3.below hbh
    obtain ⟨A4', c4', rfl, _, _, hi4⟩ := hown4.form
    have hbI := hbG.trans hbH
    refine wpF_src 6 (fuel := 1) rfl (by as_aux_lemma => kernel_rfl) rfl (.tmp 141) (.tmp 143) rfl wc.heap.size _ _ _ _ _ _ _ rfl rfl hown3 hi4 hbI.size ?_ ?_
    · have h1 := addrB_length false shn sln
      have h2 := addrB_length false dhn dln
      simp
      omega
    intro v5 wi hown5 hbi
    refine wpF_step 7 (fuel := 0) rfl (by as_aux_lemma => kernel_rfl) (fun K hK => ?_)
    go_simp
    refine hK _ _ (Below.refl _ _) ?_
    clear hK K
    refine wpF_done (by as_aux_lemma => kernel_rfl) ?_ 0
    have hB5 := hbI.trans hbi
    rw [List.nil_append] at hown5
    clear hbI hbi hbH hbh hbG hbg hbW hown4 hi4 hi2 hown3 hv0
    refine (‹∀ (a : Act) (w : World), Code.wp Try.prog _ _ a w → _›) _ _ ?_
    exact quotes_tail2 w wc wi v5 shn sln dhn dln proto0 size0 hltc hgsc hgdc hBw us2 us4 hw6 (hide hown5) (hide hB5) _ _ _ _ _ _ _ _ _ _ _ _ _ _ _ _ _ _ _ _ _ _ _ _ _ _ _ _ _ _ _ _ _ _ _ _ _ _ _ _ _ _ _ _ _ _ _ _ _ _ _ _ _ _ _ _ _ _ _ _ _ _ _ _ _ _ _ _ _ _ _ _ _ _ _ _ _ _ _ _ _ _ _ _ _ _ _ _ _ _ _ _ _ _ _ _ _ _ _ _ _ _ _ _ _ _ _ _ _ _ _ _ _ _ _ _ _ _ _ _ _ _ _ _ _ _ _ _ _ _ _ _ _ _ _ _ _ _ _ _ _ _ _ _ _ _ _ _ _ _ _ _ _ _ _ _ _ _ _ _ _ _
  · go_simp
    go_at_call 57
    refine (addrBytes_any false shn sln _ us1.out us2.out).mono ?_
    rintro e we ⟨v2, rfl, hown2, hbe⟩
    have hbde : Below wc.heap.size wd we := hbe.mono hbd.size
    refine hK _ _ hbde ?_
    clear hK K
    refine wpF_step 0 (fuel := 4) rfl (by as_aux_lemma => kernel_rfl) (fun K hK => ?_)
    go_simp
    have hze := Nat.le_trans hbd.size hbe.size
    have hv0 : OwnB (we.alloc (.cells #[] 5)) wc.heap.size (.slice (some ⟨we.heap.size, 0, none⟩) 0 0) [] := OwnB.empty we _ hze
    have hbf : Below we.heap.size we (we.alloc (.cells #[] 5)) := (Below.refl _ _).alloc (Nat.le_refl _) _
    have hown2 := hown2.below hbf
    obtain ⟨v0, hv0'⟩ : ∃ v0, Value.slice (some ⟨we.heap.size, 0, none⟩) 0 0 = v0 := ⟨_, rfl⟩
    obtain ⟨wf, hwe⟩ : ∃ wf, we.alloc (.cells #[] 5) = wf := ⟨_, rfl⟩
    rw [hwe] at hv0 hbf hown2 ⊢
    rw [hv0'] at hv0 ⊢
    refine hK _ _ (hbf.mono hze) ?_
    clear hK K hwe hv0'
    have hbW := hbd.trans (hbde.trans (hbf.mono hze))
    obtain ⟨A2', c2', rfl, _, _, hi2⟩ := hown2.form
    clear hown2 hbf hbe hbde
    refine wpF_src 3 (fuel := 3) rfl (by as_aux_lemma => kernel_rfl) rfl (.tmp 138) (.tmp 140) rfl wc.heap.size _ _ _ _ _ _ _ rfl rfl hv0 hi2 hbW.size ?_ ?_
    · simpa using Nat.le_trans (addrB_length false shn sln) (by omega)
    intro v3 wg hown3 hbg
    have hbG := hbW.trans hbg
    refine wpF_step 5 (fuel := 2) rfl (by as_aux_lemma => kernel_rfl) (fun K hK => ?_)
    go_simp
    go_at_call 57
    refine (addrBytes_any false dhn dln _ us3.out us4.out).mono ?_
    rintro e wh ⟨v4, rfl, hown4, hbh⟩
    have hbH : Below wc.heap.size wg wh := hbh.mono hbG.size
    refine hK _ _ hbH ?_
    clear hK K
    have hown3 := hown3.below hbh
    obtain ⟨A4', c4', rfl, _, _, hi4⟩ := hown4.form
    have hbI := hbG.trans hbH
    refine wpF_src 6 (fuel := 1) rfl (by as_aux_lemma => kernel_rfl) rfl (.tmp 141) (.tmp 143) rfl wc.heap.size _ _ _ _ _ _ _ rfl rfl hown3 hi4 hbI.size ?_ ?_
    · have h1 := addrB_length false shn sln
      have h2 := addrB_length false dhn dln
      simp
      omega
    intro v5 wi hown5 hbi
    refine wpF_step 7 (fuel := 0) rfl (by as_aux_lemma => kernel_rfl) (fun K hK => ?_)
    go_simp
    refine hK _ _ (Below.refl _ _) ?_
    clear hK K
    refine wpF_done (by as_aux_lemma => kernel_rfl) ?_ 0
    have hB5 := hbI.trans hbi
    rw [List.nil_append] at hown5
    clear hbI hbi hbH hbh hbG hbg hbW hown4 hi4 hi2 hown3 hv0
    refine (‹∀ (a : Act) (w : World), Code.wp Try.prog _ _ a w → _›) _ _ ?_
    exact quotes_tail2 w wc wi v5 shn sln dhn dln proto0 size0 hltc hgsc hgdc hBw us2 us4 hw6 (hide hown5) (hide hB5) _ _ _ _ _ _ _ _ _ _ _ _ _ _ _ _ _ _ _ _ _ _ _ _ _ _ _ _ _ _ _ _ _ _ _ _ _ _ _ _ _ _ _ _ _ _ _ _ _ _ _ _ _ _ _ _ _ _ _ _ _ _ _ _ _ _ _ _ _ _ _ _ _ _ _ _ _ _ _ _ _ _ _ _ _ _ _ _ _ _ _ _ _ _ _ _ _ _ _ _ _ _ _ _ _ _ _ _ _ _ _ _ _ _ _ _ _ _ _ _ _ _ _ _ _ _ _ _ _ _ _ _ _ _ _ _ _ _ _ _ _ _ _ _ _ _ _ _ _ _ _ _ _ _ _ _ _ _ _ _ _ _
end Four
end Go.Proofs.Ytniieckjooahfaa
