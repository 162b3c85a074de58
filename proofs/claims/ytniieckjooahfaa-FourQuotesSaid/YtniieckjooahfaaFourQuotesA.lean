/- FourQuotes: what the statement asks of what was quoted. Conditions: bytes that quote a header. -/
import Derived.Test.YtniieckjooahfaaFourQuotesBase
namespace Go.Proofs.Ytniieckjooahfaa
open Go.RowKit Go.ChangeShapes Go.WideShapes Go.ChangeAt Go.Deep
namespace Four
set_option maxRecDepth 20000 in
set_option maxHeartbeats 8000000 in
theorem quotes_reg12 (Q : Exit → Act → World → Prop) (w4 : World) (g b off n c : Nat) (xs : List UInt8) (tos id : Nat) (df mf : Bool) (frag ttl proto slo dlo : Nat) (A1 : Option Addr) (n1 c1 : Nat) (A2 : Option Addr) (m2 c2 s : Nat)
    (hx4 : Hid (IsB w4 w4.heap.size (some ⟨b, off, none⟩) n xs)) (hnc1 : n ≤ c) (hcm : c ≤ maxLen) (hn3 : n ≤ 300) (hn1 : n1 ≤ 1099511627776)
    (hg4 : Hid (w4.heap[g]? = some (.cells #[.int .i64 tos, .int .i64 id, .bool df, .bool mf, .int .i64 frag, .int .i64 ttl, .int .i64 proto, .bool false, .int .u64 0, .int .u64 slo, .bool false, .int .u64 0, .int .u64 dlo, .slice A1 n1 c1] 86 (0, 0)))) (hlt4 : g < w4.heap.size)
    (hq : Quoted w4 n xs frag ttl proto slo dlo n1 A2 m2) (hs : n1 + 20 = s)
    (x1 x2 x3 x4 x5 x6 x7 x8 x9 x10 x13 x14 x16 x17 x18 x19 x20 x21 x22 x23 x24 x25 x26 x27 x28 x29 x30 x31 x32 x33 x34 x35 x36 x37 x38 x39 x40 x41 x42 x43 x44 x45 x46 x47 x48 x49 x50 x51 x52 x53 x54 x55 x56 x57 x58 x59 x60 x61 x62 x63 x64 x65 x66 x67 x68 x69 x70 x71 x72 x73 x74 x75 x76 x77 x78 x79 x80 x81 x82 x83 x84 x85 x86 x87 x88 x89 x90 x91 x92 x93 x94 x95 x96 x97 x98 x99 x100 x101 x102 x103 x104 x105 x106 x107 x108 x109 x110 x111 x112 x113 x114 x115 x116 x117 x118 x119 x120 x121 x122 x123 x124 x125 x126 x127 x128 x129 x130 x131 x132 x133 x134 x135 x136 x137 x138 x139 x140 x141 x142 x143 x144 x145 x146 x147 x148 x149 x150 x151 x152 x153 x154 x155 x156 x157 x158 x159 x160 x161 x162 x163 x164 x165 x166 : Value)
    (hQp : ∀ d v c a w, Q (.panic c) (Act.put a d v) w → Q (.panic c) a w) (hQ : ∀ (y64 y65 y66 y67 y68 y69 y70 y71 y72 y73 y74 y75 y76 y77 y78 y79 y80 y81 y82 y83 y84 y85 y86 y87 y88 y89 y90 y91 y92 y93 y94 y95 y96 y97 y98 y99 y100 y101 y102 y103 y104 y105 y106 y107 y108 y109 y110 y111 y112 y113 y114 y115 y116 y117 y118 y119 y120 y121 y122 y123 y124 y125 y126 y127 y128 y129 : Value) (w' : World), Below w4.heap.size w4 w' → Q .normal ⟨#[.slice (some ⟨b, off, none⟩) n c, x1, x2, x3, x4, x5, x6, x7, x8, x9, x10, .pointer (some ⟨g, 0, none⟩), .slice A2 m2 c2, x13, x14, .int .i64 (s : Int), x16, x17, x18, x19, x20, x21, x22, x23, x24, x25, x26, x27, x28, x29, x30, x31, x32, x33, x34, x35, x36, x37, x38, x39, x40, x41, x42, x43, x44, x45, x46, x47, x48, x49, x50, x51, x52, x53, x54, x55, x56, x57, x58, x59, x60, x61, x62, x63, y64, y65, y66, y67, y68, y69, y70, y71, y72, y73, y74, y75, y76, y77, y78, y79, y80, y81, y82, y83, y84, y85, y86, y87, y88, y89, y90, y91, y92, y93, y94, y95, y96, y97, y98, y99, y100, y101, y102, y103, y104, y105, y106, y107, y108, y109, y110, y111, y112, y113, y114, y115, y116, y117, y118, y119, y120, y121, y122, y123, y124, y125, y126, y127, y128, y129, .bool false, x131, x132, x133, x134, x135, x136, x137, x138, x139, x140, x141, x142, x143, x144, x145, x146, x147, x148, x149, x150, x151, x152, x153, x154, x155, x156, x157, x158, x159, x160, x161, x162, x163, x164, x165, x166], []⟩ w') :
    Code.wp Try.prog (onlyRegion 12 Try.f13.body) Q ⟨#[.slice (some ⟨b, off, none⟩) n c, x1, x2, x3, x4, x5, x6, x7, x8, x9, x10, .pointer (some ⟨g, 0, none⟩), .slice A2 m2 c2, x13, x14, .int .i64 (s : Int), x16, x17, x18, x19, x20, x21, x22, x23, x24, x25, x26, x27, x28, x29, x30, x31, x32, x33, x34, x35, x36, x37, x38, x39, x40, x41, x42, x43, x44, x45, x46, x47, x48, x49, x50, x51, x52, x53, x54, x55, x56, x57, x58, x59, x60, x61, x62, x63, x64, x65, x66, x67, x68, x69, x70, x71, x72, x73, x74, x75, x76, x77, x78, x79, x80, x81, x82, x83, x84, x85, x86, x87, x88, x89, x90, x91, x92, x93, x94, x95, x96, x97, x98, x99, x100, x101, x102, x103, x104, x105, x106, x107, x108, x109, x110, x111, x112, x113, x114, x115, x116, x117, x118, x119, x120, x121, x122, x123, x124, x125, x126, x127, x128, x129, x130, x131, x132, x133, x134, x135, x136, x137, x138, x139, x140, x141, x142, x143, x144, x145, x146, x147, x148, x149, x150, x151, x152, x153, x154, x155, x156, x157, x158, x159, x160, x161, x162, x163, x164, x165, x166], []⟩ w4 := by
  have hxl : Hid (xs.length = n) := hx4.out.1
  obtain ⟨q1, q2, q3, q4, q5, q6, q7, q8, q9, q9', q10⟩ := hq
  obtain ⟨v0, hv0, hv0l, hc0⟩ := hx4.out.byteAt (i := 0) (by omega)
  rw [Nat.add_zero] at hc0
  obtain ⟨v6, hv6, hv6l, hc6⟩ := hx4.out.byteAt (i := 6) (by omega)
  obtain ⟨v7, hv7, hv7l, hc7⟩ := hx4.out.byteAt (i := 7) (by omega)
  obtain ⟨v8, hv8, hv8l, hc8⟩ := hx4.out.byteAt (i := 8) (by omega)
  obtain ⟨v9, hv9, hv9l, hc9⟩ := hx4.out.byteAt (i := 9) (by omega)
  rw [hv9] at q3
  rw [hv8] at q4
  rw [hv0] at q2 q8
  obtain ⟨r, hr⟩ : ∃ r, v0 % 16 = r := ⟨_, rfl⟩
  rw [hr] at q8
  rw [hs] at q8 q9 q9' q10
  have e0 : (v0 : Int) % 16 = (r : Int) := by omega
  have e1 : (r : Int) * 4 = (s : Int) := by omega
  have i0 : (0 : Int) < (n : Int) := by omega
  have k0s : (0 : Int) ≤ (s : Int) := by omega
  have ksa : (s : Int) ≤ (n : Int) := by omega
  have kac : (n : Int) ≤ (c : Int) := by omega
  obtain ⟨A5, hA5⟩ : ∃ A5, (if c = s then some (⟨b, off, none⟩ : Addr) else some ⟨b, off + s, none⟩) = A5 := ⟨_, rfl⟩
  have hx5 : IsB w4 w4.heap.size A5 (n - s) (xs.drop s) := hx4.out.dropAt hA5 q9 hnc1
  have hs1 := fun l : Later w4 => (q10.later l).str c2
  have hs2 := fun l : Later w4 => (hx5.later l).str (c - s)
  obtain ⟨zs, hzs⟩ : ∃ zs, str (xs.drop s) = zs := ⟨_, rfl⟩
  rw [hzs] at hs1 hs2
  have hc12 : ¬ c = 12 := by omega
  have hc16 : ¬ c = 16 := by omega
  have k12 : (16 : Int) ≤ (c : Int) := by omega
  have k16 : (20 : Int) ≤ (c : Int) := by omega
  have i9 : (9 : Int) < (n : Int) := by omega
  have i8 : (8 : Int) < (n : Int) := by omega
  have i7 : (7 : Int) < (n : Int) := by omega
  have i6 : (6 : Int) < (n : Int) := by omega
  have hx12 : IsB w4 w4.heap.size (some ⟨b, off + 12, none⟩) 4 ((xs.take 16).drop 12) := by
    have h1 := hx4.out.cut (k := 12) (m := 16) (cap := c) (by omega) (by omega) hnc1
    rw [if_neg hc12] at h1
    exact h1
  have hx16 : IsB w4 w4.heap.size (some ⟨b, off + 16, none⟩) 4 ((xs.take 20).drop 16) := by
    have h1 := hx4.out.cut (k := 16) (m := 20) (cap := c) (by omega) (by omega) hnc1
    rw [if_neg hc16] at h1
    exact h1
  have hs3 := fun l : Later w4 => (hx12.later l).str (c - 12)
  have hs4 := fun l : Later w4 => (hx16.later l).str (c - 16)
  have hd9 := fun l : Later w4 => l.cell hc9
  have hd8 := fun l : Later w4 => l.cell hc8
  have hd7 := fun l : Later w4 => l.cell hc7
  have hd6 := fun l : Later w4 => l.cell hc6
  have hcl := fun (l : Later w4) (o : Nat) => blk_cell (blk_below l.hb hlt4 hg4.out) o
  obtain ⟨z3, hz3⟩ : ∃ z3, str ((xs.take 16).drop 12) = z3 := ⟨_, rfl⟩
  obtain ⟨z4, hz4⟩ : ∃ z4, str ((xs.take 20).drop 16) = z4 := ⟨_, rfl⟩
  rw [hz3] at hs3
  rw [hz4] at hs4
  have hz3' : str (addrB false 0 slo) = z3 := by
    rw [← hz3, ← q5]
    unfold addrB
    rw [if_neg (by simp), beB_beN4 xs 12 (by rw [hxl.out]; omega)]
  have hz4' : str (addrB false 0 dlo) = z4 := by
    rw [← hz4, ← q6]
    unfold addrB
    rw [if_neg (by simp), beB_beN4 xs 16 (by rw [hxl.out]; omega)]
  have hfr : (frag : Int) = 256 * ((v6 : Int) % 32) + (v7 : Int) := by
    rw [← q7]
    simp only [beN, Nat.zero_mul, Nat.zero_add, Nat.reduceAdd, hv6, hv7]
    omega
  have hsl : slo < 4294967296 := by rw [← q5]; exact beN_lt xs 12 4
  have hdl : dlo < 4294967296 := by rw [← q6]; exact beN_lt xs 16 4
  obtain ⟨m6, hm6⟩ : ∃ m6, v6 % 32 = m6 := ⟨_, rfl⟩
  obtain ⟨M, hM⟩ : ∃ M, 256 * m6 = M := ⟨_, rfl⟩
  have wr9 : IntKind.i64.wrap (v9 : Int) = (v9 : Int) := wraps62 _ (by omega) (by omega)
  have wr8 : IntKind.i64.wrap (v8 : Int) = (v8 : Int) := wraps62 _ (by omega) (by omega)
  have wr7 : IntKind.i64.wrap (v7 : Int) = (v7 : Int) := wraps62 _ (by omega) (by omega)
  have wr6 : (v6 : Int).tmod 32 = (m6 : Int) := by rw [Int.tmod_eq_emod_of_nonneg (by omega)]; omega
  have wr6' : (v6 : Int) % 32 = (m6 : Int) := by omega
  have wra : IntKind.u8.wrap (m6 : Int) = (m6 : Int) := wraps_u8 _ (by omega) (by omega)
  have wrb : IntKind.i64.wrap (m6 : Int) = (m6 : Int) := wraps62 _ (by omega) (by omega)
  have wrc : 256 * (m6 : Int) = (M : Int) := by omega
  have wrd : IntKind.i64.wrap (M : Int) = (M : Int) := wraps62 _ (by omega) (by omega)
  have wre : (M : Int) + (v7 : Int) = (frag : Int) := by omega
  have wrf : IntKind.i64.wrap (frag : Int) = (frag : Int) := wraps62 _ (by omega) (by omega)
  replace hm6 := hide hm6
  replace hM := hide hM
  replace hfr := hide hfr
  replace hz3 := hide hz3
  replace hz4 := hide hz4
  replace hz3' := hide hz3'
  replace hz4' := hide hz4'
  replace hzs := hide hzs
  have hd0 := hc0
  clear hc0 hc6 hc7 hc8 hc9
  have e4 : 20 + (n1 : Int) = (s : Int) := by omega
  replace hr := hide hr
  replace hs := hide hs
  replace q2 := hide q2
  replace q8 := hide q8
  replace hv0 := hide hv0
  replace hv6 := hide hv6
  replace hv7 := hide hv7
  replace hv8 := hide hv8
  replace hv9 := hide hv9
  subst q3 q4
  replace q5 := hide q5
  replace q6 := hide q6
  replace q7 := hide q7
  replace q10 := hide q10
  replace hx5 := hide hx5
  replace hx12 := hide hx12
  replace hx16 := hide hx16
  replace hd0 := hide hd0
  conv => arg 2; whnf
  refine wp_region_L (by as_aux_lemma => kernel_rfl) ?_
  refine wpE_seg 0 34 (fuel := 33) (by as_aux_lemma => kernel_rfl) hQp (by as_aux_lemma => kernel_rfl) (by as_aux_lemma => kernel_rfl) ?_
  simp only [List.append_eq, List.cons_append, List.nil_append, List.drop_zero, List.take_succ_cons, List.take_zero]
  iterate 9 (refine wpQE_step (fun K hK => ?_); go_simp; refine hK _ ?_; clear hK K)
  (refine wpQE_step (fun K hK => ?_); go_simp; apply Exists.intro; refine ⟨fun l => ?_, hK _ ?_⟩; (go_at_call 56; refine (len_any tos id df mf frag v8 v9 false 0 slo false 0 dlo A1 n1 c1 _ hn1).mono ?_; rintro e w' ⟨rfl, hb⟩; exact ⟨rfl, hb⟩); clear hK K)
  iterate 24 (refine wpQE_step (fun K hK => ?_); go_simp; refine hK _ ?_; clear hK K)
  refine wpQE_nil ?_
  refine wpE_seg 36 3 (fuel := 30) (by as_aux_lemma => kernel_rfl) hQp (by as_aux_lemma => kernel_rfl) (by as_aux_lemma => kernel_rfl) ?_
  simp only [List.append_eq, List.cons_append, List.nil_append, List.drop_succ_cons, List.drop_zero, List.take_succ_cons, List.take_zero]
  iterate 3 (refine wpQE_step (fun K hK => ?_); go_simp; refine hK _ ?_; clear hK K)
  refine wpQE_nil ?_
  refine wpE_step 34 (fuel := 29) rfl (by as_aux_lemma => kernel_rfl) (fun l K hK => ?_)
  go_simp
  go_at_call 57
  refine (addrBytes_any false 0 slo _ (by omega) (by omega)).mono ?_
  rintro e w6 ⟨u6, rfl, hown6, hb6⟩
  refine hK _ _ hb6 ?_
  clear hK K
  have hb46 : Below w4.heap.size w4 w6 := l.hb.trans (hb6.mono l.hb.size)
  obtain ⟨A6, c6, rfl, _, _, hi6⟩ := hown6.form
  have hs5 := fun l : Later w6 => (hi6.later l).str c6
  rw [hz3'.out] at hs5
  have hcl6 : ∀ (l : Later w6) (o : Nat), l.w.cell? ⟨g, o, none⟩ = _ := fun l o => hcl (Later.up hb46 l) o
  have hd76 : ∀ (l : Later w6), l.w.cell? ⟨b, off + 7, none⟩ = _ := fun l => hd7 (Later.up hb46 l)
  have hd66 : ∀ (l : Later w6), l.w.cell? ⟨b, off + 6, none⟩ = _ := fun l => hd6 (Later.up hb46 l)
  have hs46 : ∀ (l : Later w6), (convert 35 9 (.slice (some ⟨b, off + 16, none⟩) 4 (c - 16))).run Try.prog l.w = .ok (.string z4) l.w := fun l => hs4 (Later.up hb46 l)
  clear hcl hd9 hd8 hd7 hd6 hs1 hs2 hs3 hs4 hown6 hi6 hb6
  refine wpE_seg 35 1 (fuel := 28) (by as_aux_lemma => kernel_rfl) hQp (by as_aux_lemma => kernel_rfl) (by as_aux_lemma => kernel_rfl) ?_
  simp only [List.append_eq, List.cons_append, List.nil_append, List.drop_succ_cons, List.drop_zero, List.take_succ_cons, List.take_zero]
  iterate 1 (refine wpQE_step (fun K hK => ?_); go_simp; refine hK _ ?_; clear hK K)
  refine wpQE_nil ?_
  refine wpE_seg 39 5 (fuel := 23) (by as_aux_lemma => kernel_rfl) hQp (by as_aux_lemma => kernel_rfl) (by as_aux_lemma => kernel_rfl) ?_
  simp only [List.append_eq, List.cons_append, List.nil_append, List.drop_succ_cons, List.drop_zero, List.take_succ_cons, List.take_zero]
  iterate 5 (refine wpQE_step (fun K hK => ?_); go_simp; refine hK _ ?_; clear hK K)
  refine wpQE_nil ?_
  refine wpE_seg 46 3 (fuel := 20) (by as_aux_lemma => kernel_rfl) hQp (by as_aux_lemma => kernel_rfl) (by as_aux_lemma => kernel_rfl) ?_
  simp only [List.append_eq, List.cons_append, List.nil_append, List.drop_succ_cons, List.drop_zero, List.take_succ_cons, List.take_zero]
  iterate 3 (refine wpQE_step (fun K hK => ?_); go_simp; refine hK _ ?_; clear hK K)
  refine wpQE_nil ?_
  refine wpE_step 44 (fuel := 19) rfl (by as_aux_lemma => kernel_rfl) (fun l2 K hK => ?_)
  go_simp
  go_at_call 57
  refine (addrBytes_any false 0 dlo _ (by omega) (by omega)).mono ?_
  rintro e w7 ⟨u7, rfl, hown7, hb7⟩
  refine hK _ _ hb7 ?_
  clear hK K
  have hb67 : Below w6.heap.size w6 w7 := l2.hb.trans (hb7.mono l2.hb.size)
  have hb47 : Below w4.heap.size w4 w7 := hb46.trans (hb67.mono hb46.size)
  obtain ⟨A7, c7, rfl, _, _, hi7⟩ := hown7.form
  have hs6 := fun l : Later w7 => (hi7.later l).str c7
  rw [hz4'.out] at hs6
  have hcl7 : ∀ (l : Later w7) (o : Nat), l.w.cell? ⟨g, o, none⟩ = _ := fun l o => hcl6 (Later.up hb67 l) o
  have hd77 : ∀ (l : Later w7), l.w.cell? ⟨b, off + 7, none⟩ = _ := fun l => hd76 (Later.up hb67 l)
  have hd67 : ∀ (l : Later w7), l.w.cell? ⟨b, off + 6, none⟩ = _ := fun l => hd66 (Later.up hb67 l)
  clear hcl6 hd76 hd66 hs46 hs5 hown7 hi7 hb7
  replace hb46 := hide hb46
  replace hb67 := hide hb67
  replace hb47 := hide hb47
  refine wpE_seg 45 1 (fuel := 18) (by as_aux_lemma => kernel_rfl) hQp (by as_aux_lemma => kernel_rfl) (by as_aux_lemma => kernel_rfl) ?_
  simp only [List.append_eq, List.cons_append, List.nil_append, List.drop_succ_cons, List.drop_zero, List.take_succ_cons, List.take_zero]
  iterate 1 (refine wpQE_step (fun K hK => ?_); go_simp; refine hK _ ?_; clear hK K)
  refine wpQE_nil ?_
  refine wpE_seg 49 18 (fuel := 0) (by as_aux_lemma => kernel_rfl) hQp (by as_aux_lemma => kernel_rfl) (by as_aux_lemma => kernel_rfl) ?_
  simp only [List.append_eq, List.cons_append, List.nil_append, List.drop_succ_cons, List.drop_zero, List.take_succ_cons, List.take_zero]
  iterate 18 (refine wpQE_step (fun K hK => ?_); go_simp; refine hK _ ?_; clear hK K)
  refine wpQE_nil ?_
  refine wpE_done (by as_aux_lemma => kernel_rfl) (fun w8 hw8 => ?_) 0
  have hb48 := hb47.out.trans (hw8.mono hb47.out.size)
  exact hQ _ _ _ _ _ _ _ _ _ _ _ _ _ _ _ _ _ _ _ _ _ _ _ _ _ _ _ _ _ _ _ _ _ _ _ _ _ _ _ _ _ _ _ _ _ _ _ _ _ _ _ _ _ _ _ _ _ _ _ _ _ _ _ _ _ _ _ hb48
end Four
end Go.Proofs.Ytniieckjooahfaa
