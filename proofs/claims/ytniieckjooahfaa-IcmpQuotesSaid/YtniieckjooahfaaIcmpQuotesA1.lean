/- IcmpQuotes: the two branches, whatever is quoted. Conditions: slices of bytes that read as lists. -/
import Derived.Test.YtniieckjooahfaaIcmpQuotesBase
namespace Go.Proofs.Ytniieckjooahfaa
open Go.RowKit Go.ChangeShapes Go.WideShapes Go.ChangeAt Go.Deep
namespace Icmp
set_option maxRecDepth 20000 in
set_option maxHeartbeats 8000000 in
theorem qA_four_ok (Q : Exit → Act → World → Prop) (w4 : World) (gm g9 : Nat) (ty cd wd : Int) (A : Option Addr) (n c : Nat) (xs : List UInt8) (hx4 : Hid (IsB w4 w4.heap.size A n xs)) (hnc1 : n ≤ c) (hcm : c ≤ maxLen) (hn3 : n ≤ 300)
    (hgm4 : Hid (w4.heap[gm]? = some (.cells #[.int .i64 ty, .int .i64 cd, .int .u32 wd, .slice A n c] 39 (0, 0)))) (hg9 : Hid (w4.heap[g9]? = some (.cells #[.int .i64 0, .bool false, .int .u64 0, .int .u64 0, .bool false, .int .u64 0, .int .u64 0, .int .i64 0, .int .i64 0] 26 (0, 0)))) (hlt4 : g9 < w4.heap.size)
    (proto shi slo dhi dlo frag : Nat) (rest : List UInt8) (hQ : Hid (QIs false n xs 0 proto shi slo dhi dlo frag rest)) (x1 x2 x4 x5 x6 x7 x8 x10 x11 x12 x13 x14 x15 x16 x17 x18 x19 x20 x21 x22 x23 x24 x25 x26 x27 x28 x29 x30 x31 x32 x33 x34 x35 x36 x37 x38 x39 x40 x41 x42 x43 x44 x45 x46 x47 x48 x49 x50 x51 x52 x53 x54 x55 x56 x57 x58 x59 x60 x61 x62 x63 x64 x65 x66 x67 x68 x69 x70 x71 x72 x73 x74 x75 x76 x77 x78 x79 x80 x81 x83 x84 x85 x86 x87 x88 x89 x90 x91 x92 x93 x94 x95 x96 x97 x98 x99 x100 x101 x102 x103 x104 x105 x106 x107 x108 x109 x110 x111 x112 x113 x114 x115 x116 x117 x118 x119 x120 x121 x122 x123 x124 x125 x126 x127 x128 x129 x130 x131 x132 x133 x134 x135 x136 x137 x138 x139 x140 x141 x142 x143 x144 x145 x146 x147 x148 x149 x150 x151 x152 x153 x154 x155 x156 x157 x158 x159 x160 x161 x162 x163 x164 x165 x166 x167 x168 x169 x170 x171 x172 x173 x174 x175 x176 x177 x178 x179 x180 x181 x182 x183 x184 x185 x186 x187 x188 x189 x190 x191 : Value)
    (hQp : ∀ d v c a w, Q (.panic c) (Act.put a d v) w → Q (.panic c) a w)
    (hQn : ∀ (y10 y11 y12 y13 y14 y15 y16 y17 y18 y83 y84 y85 y86 y87 y88 y89 y90 y91 y92 y93 y94 y95 y96 y97 y98 y99 y100 y101 y102 y103 y104 y105 y106 y107 y108 y109 y110 y111 y112 y113 y114 y115 y116 y117 y118 : Value) (wx : World), QRel w4 g9 false 0 proto shi slo dhi dlo frag rest y10 y11 y12 wx → Q .normal ⟨#[.bool false, x1, x2, .pointer (some ⟨gm, 0, none⟩), x4, x5, x6, x7, x8, .pointer (some ⟨g9, 0, none⟩), y10, y11, y12, y13, y14, y15, y16, y17, y18, x19, x20, x21, x22, x23, x24, x25, x26, x27, x28, x29, x30, x31, x32, x33, x34, x35, x36, x37, x38, x39, x40, x41, x42, x43, x44, x45, x46, x47, x48, x49, x50, x51, x52, x53, x54, x55, x56, x57, x58, x59, x60, x61, x62, x63, x64, x65, x66, x67, x68, x69, x70, x71, x72, x73, x74, x75, x76, x77, x78, x79, x80, x81, .bool false, y83, y84, y85, y86, y87, y88, y89, y90, y91, y92, y93, y94, y95, y96, y97, y98, y99, y100, y101, y102, y103, y104, y105, y106, y107, y108, y109, y110, y111, y112, y113, y114, y115, y116, y117, y118, x119, x120, x121, x122, x123, x124, x125, x126, x127, x128, x129, x130, x131, x132, x133, x134, x135, x136, x137, x138, x139, x140, x141, x142, x143, x144, x145, x146, x147, x148, x149, x150, x151, x152, x153, x154, x155, x156, x157, x158, x159, x160, x161, x162, x163, x164, x165, x166, x167, x168, x169, x170, x171, x172, x173, x174, x175, x176, x177, x178, x179, x180, x181, x182, x183, x184, x185, x186, x187, x188, x189, x190, x191], []⟩ wx) :
    Code.wp Try.prog (condAfter 13 Try.f12.body) Q ⟨#[.bool false, x1, x2, .pointer (some ⟨gm, 0, none⟩), x4, x5, x6, x7, x8, .pointer (some ⟨g9, 0, none⟩), x10, x11, x12, x13, x14, x15, x16, x17, x18, x19, x20, x21, x22, x23, x24, x25, x26, x27, x28, x29, x30, x31, x32, x33, x34, x35, x36, x37, x38, x39, x40, x41, x42, x43, x44, x45, x46, x47, x48, x49, x50, x51, x52, x53, x54, x55, x56, x57, x58, x59, x60, x61, x62, x63, x64, x65, x66, x67, x68, x69, x70, x71, x72, x73, x74, x75, x76, x77, x78, x79, x80, x81, .bool false, x83, x84, x85, x86, x87, x88, x89, x90, x91, x92, x93, x94, x95, x96, x97, x98, x99, x100, x101, x102, x103, x104, x105, x106, x107, x108, x109, x110, x111, x112, x113, x114, x115, x116, x117, x118, x119, x120, x121, x122, x123, x124, x125, x126, x127, x128, x129, x130, x131, x132, x133, x134, x135, x136, x137, x138, x139, x140, x141, x142, x143, x144, x145, x146, x147, x148, x149, x150, x151, x152, x153, x154, x155, x156, x157, x158, x159, x160, x161, x162, x163, x164, x165, x166, x167, x168, x169, x170, x171, x172, x173, x174, x175, x176, x177, x178, x179, x180, x181, x182, x183, x184, x185, x186, x187, x188, x189, x190, x191], []⟩ w4 := by
  have hcm4 := blk_cell hgm4.out
  replace hQn := hide hQn
  replace hQp := hide hQp
  conv => arg 2; whnf
  go_wp2_with fail
  refine (four_ok n xs proto shi slo dhi dlo frag rest hQ.out A c _ hx4.out hnc1 hcm (by omega)).mono ?_
  rintro e w5 ⟨tos, id, df, mf, ttl, A1, n1, c1, A2, c2, rfl, hr, hb5⟩
  clear hcm4
  obtain ⟨w6, hw6⟩ : ∃ w6, w5.alloc (Four.hdC tos id df mf frag ttl proto false shi slo false dhi dlo A1 n1 c1) = w6 := ⟨_, rfl⟩
  have hb56 : Below w5.heap.size w5 w6 := hw6 ▸ (Below.refl _ _).alloc (Nat.le_refl _) _
  have hlt6 : w5.heap.size < w6.heap.size := by rw [← hw6]; simp
  unfold Four.hdC at hw6
  have hgh := hw6 ▸ blk_new w5 86 #[.int .i64 tos, .int .i64 id, .bool df, .bool mf, .int .i64 frag, .int .i64 ttl, .int .i64 proto, .bool false, .int .u64 shi, .int .u64 slo, .bool false, .int .u64 dhi, .int .u64 dlo, .slice A1 n1 c1]
  have hb46 := hb5.trans (hb56.mono hb5.size)
  have hg96 := blk_below hb46 hlt4 hg9.out
  have hr6 := hr.below hb56
  obtain ⟨w7, e7, hg97, hgr7⟩ := set9 hg96 (.int .i64 proto) (.bool false) (.int .u64 shi) (.int .u64 slo) (.bool false) (.int .u64 dhi) (.int .u64 dlo) (.int .i64 0) (.int .i64 0)
  have hne : w5.heap.size ≠ g9 := by have := hb5.size; omega
  have hgh7 := grown_blk hgr7 hlt6 hne hgh
  have hr7 := OwnB.kept hr6 hgr7 (own_not hr6 hlt4)
  have hb47 := (hb46.mono (Nat.le_of_lt hlt4)).trans (grown_below hgr7 (Nat.le_trans (Nat.le_of_lt hlt4) hb46.size) (Nat.le_refl _))
  have hch := blk_cell hgh
  have hch7 := blk_cell hgh7
  have hc9 := blk_cell hg96
  have hf9 := blk_free hg96
  clear hb5 hb56 hb46 hgr7 hne hg96 hr hr6
  replace hgh := hide hgh
  replace hg97 := hide hg97
  replace hgh7 := hide hgh7
  replace hb47 := hide hb47
  replace hr7 := hide hr7
  go_wp2_with fail
  refine hQn.out _ _ _ _ _ _ _ _ _ _ _ _ _ _ _ _ _ _ _ _ _ _ _ _ _ _ _ _ _ _ _ _ _ _ _ _ _ _ _ _ _ _ _ _ _ _ ⟨A2, c2, frag, rest, _, _, _, _, _, _, _, rfl, rfl, rfl, hr7.out, hg97.out, fun _ => ⟨rfl, rfl, rfl⟩, fun h => absurd rfl h, hb47.out⟩
end Icmp
end Go.Proofs.Ytniieckjooahfaa
