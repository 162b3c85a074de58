/- IcmpQuotes: what stands behind the branches. Conditions: bytes that read as a list. -/
import Derived.Test.YtniieckjooahfaaIcmpQuotesBase
namespace Go.Proofs.Ytniieckjooahfaa
open Go.RowKit Go.ChangeShapes Go.WideShapes Go.ChangeAt Go.Deep
namespace Icmp
set_option maxRecDepth 20000 in
set_option maxHeartbeats 8000000 in
theorem qB_K (w w4 wx : World) (g5 g9 : Nat) (v6 : Bool) (G K fr : Nat) (Ar : Option Addr) (cr : Nat) (rs : List UInt8) (tp : Int) (tv : Bool) (thi tlo : Int) (uv : Bool) (uhi ulo sp dp : Int) (p : Int) (av : Bool) (a1 a2 : Int) (bv : Bool) (b1 b2 : Int)
    (hgt : Hid (wx.heap[g5]? = some (.cells #[.int .i64 tp, .bool tv, .int .u64 thi, .int .u64 tlo, .bool uv, .int .u64 uhi, .int .u64 ulo, .int .i64 sp, .int .i64 dp] 26 (0, 0)))) (hg9 : Hid (wx.heap[g9]? = some (.cells #[.int .i64 p, .bool av, .int .u64 a1, .int .u64 a2, .bool bv, .int .u64 b1, .int .u64 b2, .int .i64 0, .int .i64 0] 26 (0, 0)))) (hBx : Hid (Below w.heap.size w wx)) (hrl : rs.length ≤ 300) (h0 : tuV tp tv thi tlo uv uhi ulo sp dp = tu0) (hK : K ≠ 0) (hG : G = K) (x1 x2 x3 x4 x7 x8 x13 x14 x15 x16 x17 x18 x19 x20 x21 x22 x23 x24 x25 x26 x27 x28 x29 x30 x31 x32 x33 x34 x35 x36 x37 x38 x39 x40 x41 x42 x43 x44 x45 x46 x47 x48 x49 x50 x51 x52 x53 x54 x55 x56 x57 x58 x59 x60 x61 x62 x63 x64 x65 x66 x67 x68 x69 x70 x71 x72 x73 x74 x75 x76 x77 x78 x79 x80 x81 x82 x83 x84 x85 x86 x87 x88 x89 x90 x91 x92 x93 x94 x95 x96 x97 x98 x99 x100 x101 x102 x103 x104 x105 x106 x107 x108 x109 x110 x111 x112 x113 x114 x115 x116 x117 x118 x119 x120 x121 x122 x123 x124 x125 x126 x127 x128 x129 x130 x131 x132 x133 x134 x135 x136 x137 x138 x139 x140 x141 x142 x143 x144 x145 x146 x147 x148 x149 x150 x151 x152 x153 x154 x155 x156 x157 x158 x159 x160 x161 x162 x163 x164 x165 x166 x167 x168 x169 x170 x171 x172 x173 x174 x175 x176 x177 x178 x179 x180 x181 x182 x183 x184 x185 x186 x187 x188 x189 x190 x191 : Value) :
    Code.wp Try.prog (restFrom 24 Try.f12.body) (bodyPost Try.prog Try.f12 fun e w' => e = .returned (.bool true) ∧ Below w.heap.size w w') ⟨#[.bool v6, x1, x2, x3, x4, .pointer (some ⟨g5, 0, none⟩), .int .i64 (G : Int), x7, x8, .pointer (some ⟨g9, 0, none⟩), .slice Ar rs.length cr, .int .i64 (fr : Int), .int .i64 (K : Int), x13, x14, x15, x16, x17, x18, x19, x20, x21, x22, x23, x24, x25, x26, x27, x28, x29, x30, x31, x32, x33, x34, x35, x36, x37, x38, x39, x40, x41, x42, x43, x44, x45, x46, x47, x48, x49, x50, x51, x52, x53, x54, x55, x56, x57, x58, x59, x60, x61, x62, x63, x64, x65, x66, x67, x68, x69, x70, x71, x72, x73, x74, x75, x76, x77, x78, x79, x80, x81, x82, x83, x84, x85, x86, x87, x88, x89, x90, x91, x92, x93, x94, x95, x96, x97, x98, x99, x100, x101, x102, x103, x104, x105, x106, x107, x108, x109, x110, x111, x112, x113, x114, x115, x116, x117, x118, x119, x120, x121, x122, x123, x124, x125, x126, x127, x128, x129, x130, x131, x132, x133, x134, x135, x136, x137, x138, x139, x140, x141, x142, x143, x144, x145, x146, x147, x148, x149, x150, x151, x152, x153, x154, x155, x156, x157, x158, x159, x160, x161, x162, x163, x164, x165, x166, x167, x168, x169, x170, x171, x172, x173, x174, x175, x176, x177, x178, x179, x180, x181, x182, x183, x184, x185, x186, x187, x188, x189, x190, x191], []⟩ wx := by
  simp only [Value.agg.injEq, Array.mk.injEq, List.cons.injEq, Value.int.injEq, Value.bool.injEq, true_and, and_true] at h0
  obtain ⟨rfl, rfl, rfl, rfl, rfl, rfl, rfl, rfl, rfl⟩ := h0
  subst hG
  have t1 : ((G : Int) == 0) = false := by rw [beq_eq_false_iff_ne]; omega
  have t2 : ((G : Int) != 0) = true := by rw [bne_iff_ne]; omega
  have hct := blk_cell hgt.out
  have hc9 := blk_cell hg9.out
  conv => arg 2; whnf
  go_wp2_with fail
  refine (awake_any _).mono ?_
  rintro e w9 ⟨rfl, hb9⟩
  clear hct hc9
  replace hb9 := hide hb9
  go_wp2_with fail
  go_ret
  exact ⟨rfl, hBx.out.trans (hb9.out.mono hBx.out.size)⟩
set_option maxRecDepth 20000 in
set_option maxHeartbeats 8000000 in
theorem qB_21 (w w4 wx : World) (g5 g9 : Nat) (v6 : Bool) (G K fr : Nat) (Ar : Option Addr) (cr : Nat) (rs : List UInt8) (tp : Int) (tv : Bool) (thi tlo : Int) (uv : Bool) (uhi ulo sp dp : Int) (p : Int) (av : Bool) (a1 a2 : Int) (bv : Bool) (b1 b2 : Int)
    (hgt : Hid (wx.heap[g5]? = some (.cells #[.int .i64 tp, .bool tv, .int .u64 thi, .int .u64 tlo, .bool uv, .int .u64 uhi, .int .u64 ulo, .int .i64 sp, .int .i64 dp] 26 (0, 0)))) (hg9 : Hid (wx.heap[g9]? = some (.cells #[.int .i64 p, .bool av, .int .u64 a1, .int .u64 a2, .bool bv, .int .u64 b1, .int .u64 b2, .int .i64 0, .int .i64 0] 26 (0, 0)))) (hBx : Hid (Below w.heap.size w wx)) (hrl : rs.length ≤ 300) (h0 : tuV tp tv thi tlo uv uhi ulo sp dp = tu0) (hK : K = 0) (hG : G = 21) (hf : 0 < fr) (x1 x2 x3 x4 x7 x8 x13 x14 x15 x16 x17 x18 x19 x20 x21 x22 x23 x24 x25 x26 x27 x28 x29 x30 x31 x32 x33 x34 x35 x36 x37 x38 x39 x40 x41 x42 x43 x44 x45 x46 x47 x48 x49 x50 x51 x52 x53 x54 x55 x56 x57 x58 x59 x60 x61 x62 x63 x64 x65 x66 x67 x68 x69 x70 x71 x72 x73 x74 x75 x76 x77 x78 x79 x80 x81 x82 x83 x84 x85 x86 x87 x88 x89 x90 x91 x92 x93 x94 x95 x96 x97 x98 x99 x100 x101 x102 x103 x104 x105 x106 x107 x108 x109 x110 x111 x112 x113 x114 x115 x116 x117 x118 x119 x120 x121 x122 x123 x124 x125 x126 x127 x128 x129 x130 x131 x132 x133 x134 x135 x136 x137 x138 x139 x140 x141 x142 x143 x144 x145 x146 x147 x148 x149 x150 x151 x152 x153 x154 x155 x156 x157 x158 x159 x160 x161 x162 x163 x164 x165 x166 x167 x168 x169 x170 x171 x172 x173 x174 x175 x176 x177 x178 x179 x180 x181 x182 x183 x184 x185 x186 x187 x188 x189 x190 x191 : Value) :
    Code.wp Try.prog (restFrom 24 Try.f12.body) (bodyPost Try.prog Try.f12 fun e w' => e = .returned (.bool true) ∧ Below w.heap.size w w') ⟨#[.bool v6, x1, x2, x3, x4, .pointer (some ⟨g5, 0, none⟩), .int .i64 (G : Int), x7, x8, .pointer (some ⟨g9, 0, none⟩), .slice Ar rs.length cr, .int .i64 (fr : Int), .int .i64 (K : Int), x13, x14, x15, x16, x17, x18, x19, x20, x21, x22, x23, x24, x25, x26, x27, x28, x29, x30, x31, x32, x33, x34, x35, x36, x37, x38, x39, x40, x41, x42, x43, x44, x45, x46, x47, x48, x49, x50, x51, x52, x53, x54, x55, x56, x57, x58, x59, x60, x61, x62, x63, x64, x65, x66, x67, x68, x69, x70, x71, x72, x73, x74, x75, x76, x77, x78, x79, x80, x81, x82, x83, x84, x85, x86, x87, x88, x89, x90, x91, x92, x93, x94, x95, x96, x97, x98, x99, x100, x101, x102, x103, x104, x105, x106, x107, x108, x109, x110, x111, x112, x113, x114, x115, x116, x117, x118, x119, x120, x121, x122, x123, x124, x125, x126, x127, x128, x129, x130, x131, x132, x133, x134, x135, x136, x137, x138, x139, x140, x141, x142, x143, x144, x145, x146, x147, x148, x149, x150, x151, x152, x153, x154, x155, x156, x157, x158, x159, x160, x161, x162, x163, x164, x165, x166, x167, x168, x169, x170, x171, x172, x173, x174, x175, x176, x177, x178, x179, x180, x181, x182, x183, x184, x185, x186, x187, x188, x189, x190, x191], []⟩ wx := by
  simp only [Value.agg.injEq, Array.mk.injEq, List.cons.injEq, Value.int.injEq, Value.bool.injEq, true_and, and_true] at h0
  obtain ⟨rfl, rfl, rfl, rfl, rfl, rfl, rfl, rfl, rfl⟩ := h0
  subst hG hK
  have t1 : (0 : Int) < (fr : Int) := by omega
  have hct := blk_cell hgt.out
  have hc9 := blk_cell hg9.out
  conv => arg 2; whnf
  go_wp2_with fail
  refine (awake_any _).mono ?_
  rintro e w9 ⟨rfl, hb9⟩
  clear hct hc9
  replace hb9 := hide hb9
  go_wp2_with fail
  go_ret
  exact ⟨rfl, hBx.out.trans (hb9.out.mono hBx.out.size)⟩
set_option maxRecDepth 20000 in
set_option maxHeartbeats 8000000 in
theorem qB_14 (w w4 wx : World) (g5 g9 : Nat) (v6 : Bool) (G K fr : Nat) (Ar : Option Addr) (cr : Nat) (rs : List UInt8) (tp : Int) (tv : Bool) (thi tlo : Int) (uv : Bool) (uhi ulo sp dp : Int) (p : Int) (av : Bool) (a1 a2 : Int) (bv : Bool) (b1 b2 : Int)
    (hgt : Hid (wx.heap[g5]? = some (.cells #[.int .i64 tp, .bool tv, .int .u64 thi, .int .u64 tlo, .bool uv, .int .u64 uhi, .int .u64 ulo, .int .i64 sp, .int .i64 dp] 26 (0, 0)))) (hg9 : Hid (wx.heap[g9]? = some (.cells #[.int .i64 p, .bool av, .int .u64 a1, .int .u64 a2, .bool bv, .int .u64 b1, .int .u64 b2, .int .i64 0, .int .i64 0] 26 (0, 0)))) (hBx : Hid (Below w.heap.size w wx)) (hrl : rs.length ≤ 300) (h0 : tuV tp tv thi tlo uv uhi ulo sp dp = tu0) (hK : K = 0) (hG : G = 14) (hf : fr = 0) (h6 : p ≠ 6) (h17 : p ≠ 17) (x1 x2 x3 x4 x7 x8 x13 x14 x15 x16 x17 x18 x19 x20 x21 x22 x23 x24 x25 x26 x27 x28 x29 x30 x31 x32 x33 x34 x35 x36 x37 x38 x39 x40 x41 x42 x43 x44 x45 x46 x47 x48 x49 x50 x51 x52 x53 x54 x55 x56 x57 x58 x59 x60 x61 x62 x63 x64 x65 x66 x67 x68 x69 x70 x71 x72 x73 x74 x75 x76 x77 x78 x79 x80 x81 x82 x83 x84 x85 x86 x87 x88 x89 x90 x91 x92 x93 x94 x95 x96 x97 x98 x99 x100 x101 x102 x103 x104 x105 x106 x107 x108 x109 x110 x111 x112 x113 x114 x115 x116 x117 x118 x119 x120 x121 x122 x123 x124 x125 x126 x127 x128 x129 x130 x131 x132 x133 x134 x135 x136 x137 x138 x139 x140 x141 x142 x143 x144 x145 x146 x147 x148 x149 x150 x151 x152 x153 x154 x155 x156 x157 x158 x159 x160 x161 x162 x163 x164 x165 x166 x167 x168 x169 x170 x171 x172 x173 x174 x175 x176 x177 x178 x179 x180 x181 x182 x183 x184 x185 x186 x187 x188 x189 x190 x191 : Value) :
    Code.wp Try.prog (restFrom 24 Try.f12.body) (bodyPost Try.prog Try.f12 fun e w' => e = .returned (.bool true) ∧ Below w.heap.size w w') ⟨#[.bool v6, x1, x2, x3, x4, .pointer (some ⟨g5, 0, none⟩), .int .i64 (G : Int), x7, x8, .pointer (some ⟨g9, 0, none⟩), .slice Ar rs.length cr, .int .i64 (fr : Int), .int .i64 (K : Int), x13, x14, x15, x16, x17, x18, x19, x20, x21, x22, x23, x24, x25, x26, x27, x28, x29, x30, x31, x32, x33, x34, x35, x36, x37, x38, x39, x40, x41, x42, x43, x44, x45, x46, x47, x48, x49, x50, x51, x52, x53, x54, x55, x56, x57, x58, x59, x60, x61, x62, x63, x64, x65, x66, x67, x68, x69, x70, x71, x72, x73, x74, x75, x76, x77, x78, x79, x80, x81, x82, x83, x84, x85, x86, x87, x88, x89, x90, x91, x92, x93, x94, x95, x96, x97, x98, x99, x100, x101, x102, x103, x104, x105, x106, x107, x108, x109, x110, x111, x112, x113, x114, x115, x116, x117, x118, x119, x120, x121, x122, x123, x124, x125, x126, x127, x128, x129, x130, x131, x132, x133, x134, x135, x136, x137, x138, x139, x140, x141, x142, x143, x144, x145, x146, x147, x148, x149, x150, x151, x152, x153, x154, x155, x156, x157, x158, x159, x160, x161, x162, x163, x164, x165, x166, x167, x168, x169, x170, x171, x172, x173, x174, x175, x176, x177, x178, x179, x180, x181, x182, x183, x184, x185, x186, x187, x188, x189, x190, x191], []⟩ wx := by
  simp only [Value.agg.injEq, Array.mk.injEq, List.cons.injEq, Value.int.injEq, Value.bool.injEq, true_and, and_true] at h0
  obtain ⟨rfl, rfl, rfl, rfl, rfl, rfl, rfl, rfl, rfl⟩ := h0
  subst hG hK hf
  have t2 : (p != 6) = true := by simp [h6]
  have t3 : (p != 17) = true := by simp [h17]
  clear h6 h17
  have hct := blk_cell hgt.out
  have hc9 := blk_cell hg9.out
  conv => arg 2; whnf
  go_wp2_with fail
  refine (awake_any _).mono ?_
  rintro e w9 ⟨rfl, hb9⟩
  clear hct hc9
  replace hb9 := hide hb9
  go_wp2_with fail
  go_ret
  exact ⟨rfl, hBx.out.trans (hb9.out.mono hBx.out.size)⟩
set_option maxRecDepth 20000 in
set_option maxHeartbeats 8000000 in
theorem qB_2a (w w4 wx : World) (g5 g9 : Nat) (v6 : Bool) (G K fr : Nat) (Ar : Option Addr) (cr : Nat) (rs : List UInt8) (tp : Int) (tv : Bool) (thi tlo : Int) (uv : Bool) (uhi ulo sp dp : Int) (p : Int) (av : Bool) (a1 a2 : Int) (bv : Bool) (b1 b2 : Int)
    (hgt : Hid (wx.heap[g5]? = some (.cells #[.int .i64 tp, .bool tv, .int .u64 thi, .int .u64 tlo, .bool uv, .int .u64 uhi, .int .u64 ulo, .int .i64 sp, .int .i64 dp] 26 (0, 0)))) (hg9 : Hid (wx.heap[g9]? = some (.cells #[.int .i64 p, .bool av, .int .u64 a1, .int .u64 a2, .bool bv, .int .u64 b1, .int .u64 b2, .int .i64 0, .int .i64 0] 26 (0, 0)))) (hBx : Hid (Below w.heap.size w wx)) (hrl : rs.length ≤ 300) (h0 : tuV tp tv thi tlo uv uhi ulo sp dp = tu0) (hK : K = 0) (hG : G = 2) (hf : fr = 0) (h6 : p = 6) (h4 : rs.length < 4) (x1 x2 x3 x4 x7 x8 x13 x14 x15 x16 x17 x18 x19 x20 x21 x22 x23 x24 x25 x26 x27 x28 x29 x30 x31 x32 x33 x34 x35 x36 x37 x38 x39 x40 x41 x42 x43 x44 x45 x46 x47 x48 x49 x50 x51 x52 x53 x54 x55 x56 x57 x58 x59 x60 x61 x62 x63 x64 x65 x66 x67 x68 x69 x70 x71 x72 x73 x74 x75 x76 x77 x78 x79 x80 x81 x82 x83 x84 x85 x86 x87 x88 x89 x90 x91 x92 x93 x94 x95 x96 x97 x98 x99 x100 x101 x102 x103 x104 x105 x106 x107 x108 x109 x110 x111 x112 x113 x114 x115 x116 x117 x118 x119 x120 x121 x122 x123 x124 x125 x126 x127 x128 x129 x130 x131 x132 x133 x134 x135 x136 x137 x138 x139 x140 x141 x142 x143 x144 x145 x146 x147 x148 x149 x150 x151 x152 x153 x154 x155 x156 x157 x158 x159 x160 x161 x162 x163 x164 x165 x166 x167 x168 x169 x170 x171 x172 x173 x174 x175 x176 x177 x178 x179 x180 x181 x182 x183 x184 x185 x186 x187 x188 x189 x190 x191 : Value) :
    Code.wp Try.prog (restFrom 24 Try.f12.body) (bodyPost Try.prog Try.f12 fun e w' => e = .returned (.bool true) ∧ Below w.heap.size w w') ⟨#[.bool v6, x1, x2, x3, x4, .pointer (some ⟨g5, 0, none⟩), .int .i64 (G : Int), x7, x8, .pointer (some ⟨g9, 0, none⟩), .slice Ar rs.length cr, .int .i64 (fr : Int), .int .i64 (K : Int), x13, x14, x15, x16, x17, x18, x19, x20, x21, x22, x23, x24, x25, x26, x27, x28, x29, x30, x31, x32, x33, x34, x35, x36, x37, x38, x39, x40, x41, x42, x43, x44, x45, x46, x47, x48, x49, x50, x51, x52, x53, x54, x55, x56, x57, x58, x59, x60, x61, x62, x63, x64, x65, x66, x67, x68, x69, x70, x71, x72, x73, x74, x75, x76, x77, x78, x79, x80, x81, x82, x83, x84, x85, x86, x87, x88, x89, x90, x91, x92, x93, x94, x95, x96, x97, x98, x99, x100, x101, x102, x103, x104, x105, x106, x107, x108, x109, x110, x111, x112, x113, x114, x115, x116, x117, x118, x119, x120, x121, x122, x123, x124, x125, x126, x127, x128, x129, x130, x131, x132, x133, x134, x135, x136, x137, x138, x139, x140, x141, x142, x143, x144, x145, x146, x147, x148, x149, x150, x151, x152, x153, x154, x155, x156, x157, x158, x159, x160, x161, x162, x163, x164, x165, x166, x167, x168, x169, x170, x171, x172, x173, x174, x175, x176, x177, x178, x179, x180, x181, x182, x183, x184, x185, x186, x187, x188, x189, x190, x191], []⟩ wx := by
  simp only [Value.agg.injEq, Array.mk.injEq, List.cons.injEq, Value.int.injEq, Value.bool.injEq, true_and, and_true] at h0
  obtain ⟨rfl, rfl, rfl, rfl, rfl, rfl, rfl, rfl, rfl⟩ := h0
  subst hG hK hf
  subst h6
  have t4 : (rs.length : Int) < 4 := by omega
  have hct := blk_cell hgt.out
  have hc9 := blk_cell hg9.out
  conv => arg 2; whnf
  go_wp2_with fail
  refine (awake_any _).mono ?_
  rintro e w9 ⟨rfl, hb9⟩
  clear hct hc9
  replace hb9 := hide hb9
  go_wp2_with fail
  go_ret
  exact ⟨rfl, hBx.out.trans (hb9.out.mono hBx.out.size)⟩
set_option maxRecDepth 20000 in
set_option maxHeartbeats 8000000 in
theorem qB_2b (w w4 wx : World) (g5 g9 : Nat) (v6 : Bool) (G K fr : Nat) (Ar : Option Addr) (cr : Nat) (rs : List UInt8) (tp : Int) (tv : Bool) (thi tlo : Int) (uv : Bool) (uhi ulo sp dp : Int) (p : Int) (av : Bool) (a1 a2 : Int) (bv : Bool) (b1 b2 : Int)
    (hgt : Hid (wx.heap[g5]? = some (.cells #[.int .i64 tp, .bool tv, .int .u64 thi, .int .u64 tlo, .bool uv, .int .u64 uhi, .int .u64 ulo, .int .i64 sp, .int .i64 dp] 26 (0, 0)))) (hg9 : Hid (wx.heap[g9]? = some (.cells #[.int .i64 p, .bool av, .int .u64 a1, .int .u64 a2, .bool bv, .int .u64 b1, .int .u64 b2, .int .i64 0, .int .i64 0] 26 (0, 0)))) (hBx : Hid (Below w.heap.size w wx)) (hrl : rs.length ≤ 300) (h0 : tuV tp tv thi tlo uv uhi ulo sp dp = tu0) (hK : K = 0) (hG : G = 2) (hf : fr = 0) (h6 : p = 17) (h4 : rs.length < 4) (x1 x2 x3 x4 x7 x8 x13 x14 x15 x16 x17 x18 x19 x20 x21 x22 x23 x24 x25 x26 x27 x28 x29 x30 x31 x32 x33 x34 x35 x36 x37 x38 x39 x40 x41 x42 x43 x44 x45 x46 x47 x48 x49 x50 x51 x52 x53 x54 x55 x56 x57 x58 x59 x60 x61 x62 x63 x64 x65 x66 x67 x68 x69 x70 x71 x72 x73 x74 x75 x76 x77 x78 x79 x80 x81 x82 x83 x84 x85 x86 x87 x88 x89 x90 x91 x92 x93 x94 x95 x96 x97 x98 x99 x100 x101 x102 x103 x104 x105 x106 x107 x108 x109 x110 x111 x112 x113 x114 x115 x116 x117 x118 x119 x120 x121 x122 x123 x124 x125 x126 x127 x128 x129 x130 x131 x132 x133 x134 x135 x136 x137 x138 x139 x140 x141 x142 x143 x144 x145 x146 x147 x148 x149 x150 x151 x152 x153 x154 x155 x156 x157 x158 x159 x160 x161 x162 x163 x164 x165 x166 x167 x168 x169 x170 x171 x172 x173 x174 x175 x176 x177 x178 x179 x180 x181 x182 x183 x184 x185 x186 x187 x188 x189 x190 x191 : Value) :
    Code.wp Try.prog (restFrom 24 Try.f12.body) (bodyPost Try.prog Try.f12 fun e w' => e = .returned (.bool true) ∧ Below w.heap.size w w') ⟨#[.bool v6, x1, x2, x3, x4, .pointer (some ⟨g5, 0, none⟩), .int .i64 (G : Int), x7, x8, .pointer (some ⟨g9, 0, none⟩), .slice Ar rs.length cr, .int .i64 (fr : Int), .int .i64 (K : Int), x13, x14, x15, x16, x17, x18, x19, x20, x21, x22, x23, x24, x25, x26, x27, x28, x29, x30, x31, x32, x33, x34, x35, x36, x37, x38, x39, x40, x41, x42, x43, x44, x45, x46, x47, x48, x49, x50, x51, x52, x53, x54, x55, x56, x57, x58, x59, x60, x61, x62, x63, x64, x65, x66, x67, x68, x69, x70, x71, x72, x73, x74, x75, x76, x77, x78, x79, x80, x81, x82, x83, x84, x85, x86, x87, x88, x89, x90, x91, x92, x93, x94, x95, x96, x97, x98, x99, x100, x101, x102, x103, x104, x105, x106, x107, x108, x109, x110, x111, x112, x113, x114, x115, x116, x117, x118, x119, x120, x121, x122, x123, x124, x125, x126, x127, x128, x129, x130, x131, x132, x133, x134, x135, x136, x137, x138, x139, x140, x141, x142, x143, x144, x145, x146, x147, x148, x149, x150, x151, x152, x153, x154, x155, x156, x157, x158, x159, x160, x161, x162, x163, x164, x165, x166, x167, x168, x169, x170, x171, x172, x173, x174, x175, x176, x177, x178, x179, x180, x181, x182, x183, x184, x185, x186, x187, x188, x189, x190, x191], []⟩ wx := by
  simp only [Value.agg.injEq, Array.mk.injEq, List.cons.injEq, Value.int.injEq, Value.bool.injEq, true_and, and_true] at h0
  obtain ⟨rfl, rfl, rfl, rfl, rfl, rfl, rfl, rfl, rfl⟩ := h0
  subst hG hK hf
  subst h6
  have t4 : (rs.length : Int) < 4 := by omega
  have hct := blk_cell hgt.out
  have hc9 := blk_cell hg9.out
  conv => arg 2; whnf
  go_wp2_with fail
  refine (awake_any _).mono ?_
  rintro e w9 ⟨rfl, hb9⟩
  clear hct hc9
  replace hb9 := hide hb9
  go_wp2_with fail
  go_ret
  exact ⟨rfl, hBx.out.trans (hb9.out.mono hBx.out.size)⟩
set_option maxRecDepth 20000 in
set_option maxHeartbeats 8000000 in
theorem qB_0a (w w4 wx : World) (g5 g9 : Nat) (v6 : Bool) (G K fr : Nat) (Ar : Option Addr) (cr : Nat) (rs : List UInt8) (tp : Int) (tv : Bool) (thi tlo : Int) (uv : Bool) (uhi ulo sp dp : Int) (p : Int) (av : Bool) (a1 a2 : Int) (bv : Bool) (b1 b2 : Int)
    (hgt : Hid (wx.heap[g5]? = some (.cells #[.int .i64 tp, .bool tv, .int .u64 thi, .int .u64 tlo, .bool uv, .int .u64 uhi, .int .u64 ulo, .int .i64 sp, .int .i64 dp] 26 (0, 0)))) (hg9 : Hid (wx.heap[g9]? = some (.cells #[.int .i64 p, .bool av, .int .u64 a1, .int .u64 a2, .bool bv, .int .u64 b1, .int .u64 b2, .int .i64 0, .int .i64 0] 26 (0, 0)))) (hBx : Hid (Below w.heap.size w wx)) (hrl : rs.length ≤ 300) (hK : K = 0) (hG : G = 0) (hf : fr = 0) (h6 : p = 6) (h4 : 4 ≤ rs.length) (hi : Hid (IsB wx wx.heap.size Ar rs.length rs)) (hne : g9 ≠ g5) (hwg : w.heap.size ≤ g9) (p1 p2 : Nat) (e1 : beN rs 0 2 = p1) (e2 : beN rs 2 2 = p2) (ht : tuV tp tv thi tlo uv uhi ulo sp dp = tuV p av a1 a2 bv b1 b2 p1 p2) (x1 x2 x3 x4 x7 x8 x13 x14 x15 x16 x17 x18 x19 x20 x21 x22 x23 x24 x25 x26 x27 x28 x29 x30 x31 x32 x33 x34 x35 x36 x37 x38 x39 x40 x41 x42 x43 x44 x45 x46 x47 x48 x49 x50 x51 x52 x53 x54 x55 x56 x57 x58 x59 x60 x61 x62 x63 x64 x65 x66 x67 x68 x69 x70 x71 x72 x73 x74 x75 x76 x77 x78 x79 x80 x81 x82 x83 x84 x85 x86 x87 x88 x89 x90 x91 x92 x93 x94 x95 x96 x97 x98 x99 x100 x101 x102 x103 x104 x105 x106 x107 x108 x109 x110 x111 x112 x113 x114 x115 x116 x117 x118 x119 x120 x121 x122 x123 x124 x125 x126 x127 x128 x129 x130 x131 x132 x133 x134 x135 x136 x137 x138 x139 x140 x141 x142 x143 x144 x145 x146 x147 x148 x149 x150 x151 x152 x153 x154 x155 x156 x157 x158 x159 x160 x161 x162 x163 x164 x165 x166 x167 x168 x169 x170 x171 x172 x173 x174 x175 x176 x177 x178 x179 x180 x181 x182 x183 x184 x185 x186 x187 x188 x189 x190 x191 : Value) :
    Code.wp Try.prog (restFrom 24 Try.f12.body) (bodyPost Try.prog Try.f12 fun e w' => e = .returned (.bool true) ∧ Below w.heap.size w w') ⟨#[.bool v6, x1, x2, x3, x4, .pointer (some ⟨g5, 0, none⟩), .int .i64 (G : Int), x7, x8, .pointer (some ⟨g9, 0, none⟩), .slice Ar rs.length cr, .int .i64 (fr : Int), .int .i64 (K : Int), x13, x14, x15, x16, x17, x18, x19, x20, x21, x22, x23, x24, x25, x26, x27, x28, x29, x30, x31, x32, x33, x34, x35, x36, x37, x38, x39, x40, x41, x42, x43, x44, x45, x46, x47, x48, x49, x50, x51, x52, x53, x54, x55, x56, x57, x58, x59, x60, x61, x62, x63, x64, x65, x66, x67, x68, x69, x70, x71, x72, x73, x74, x75, x76, x77, x78, x79, x80, x81, x82, x83, x84, x85, x86, x87, x88, x89, x90, x91, x92, x93, x94, x95, x96, x97, x98, x99, x100, x101, x102, x103, x104, x105, x106, x107, x108, x109, x110, x111, x112, x113, x114, x115, x116, x117, x118, x119, x120, x121, x122, x123, x124, x125, x126, x127, x128, x129, x130, x131, x132, x133, x134, x135, x136, x137, x138, x139, x140, x141, x142, x143, x144, x145, x146, x147, x148, x149, x150, x151, x152, x153, x154, x155, x156, x157, x158, x159, x160, x161, x162, x163, x164, x165, x166, x167, x168, x169, x170, x171, x172, x173, x174, x175, x176, x177, x178, x179, x180, x181, x182, x183, x184, x185, x186, x187, x188, x189, x190, x191], []⟩ wx := by
  simp only [Value.agg.injEq, Array.mk.injEq, List.cons.injEq, Value.int.injEq, Value.bool.injEq, true_and, and_true] at ht
  obtain ⟨rfl, rfl, rfl, rfl, rfl, rfl, rfl, rfl, rfl⟩ := ht
  subst hG hK hf
  subst h6
  have t4 : ¬ (rs.length : Int) < 4 := by omega
  obtain ⟨b, off, r0, rfl, hbl, hr0, hr0l, hc0⟩ := hi.out.byte (i := 0) (by omega)
  obtain ⟨r1, hr1, hr1l, hc1⟩ := hi.out.byteAt (i := 1) (by omega)
  obtain ⟨r2, hr2, hr2l, hc2⟩ := hi.out.byteAt (i := 2) (by omega)
  obtain ⟨r3, hr3, hr3l, hc3⟩ := hi.out.byteAt (i := 3) (by omega)
  rw [Nat.add_zero] at hc0
  simp only [beN, Nat.zero_mul, Nat.zero_add, Nat.reduceAdd, hr0, hr1, hr2, hr3] at e1 e2
  have i0 : (0 : Int) < (rs.length : Int) := by omega
  have i1 : (1 : Int) < (rs.length : Int) := by omega
  have i2 : (2 : Int) < (rs.length : Int) := by omega
  have i3 : (3 : Int) < (rs.length : Int) := by omega
  have j0 : 0 < rs.length := by omega
  have hbl9 : b ≠ g9 := by
    rintro rfl
    have h1 := blk_cell hg9.out off
    rw [hc0] at h1
    rcases off with _ | _ | _ | _ | _ | _ | _ | _ | _ | off <;> simp at h1
  obtain ⟨m0, hm0⟩ : ∃ m0, 256 * r0 = m0 := ⟨_, rfl⟩
  obtain ⟨m2, hm2⟩ : ∃ m2, 256 * r2 = m2 := ⟨_, rfl⟩
  have s1 : IntKind.i64.wrap (r0 : Int) = (r0 : Int) := wraps62 _ (by omega) (by omega)
  have s2 : 256 * (r0 : Int) = (m0 : Int) := by omega
  have s3 : IntKind.i64.wrap (m0 : Int) = (m0 : Int) := wraps62 _ (by omega) (by omega)
  have s4 : IntKind.i64.wrap (r1 : Int) = (r1 : Int) := wraps62 _ (by omega) (by omega)
  have s5 : (m0 : Int) + (r1 : Int) = (p1 : Int) := by omega
  have s6 : IntKind.i64.wrap (p1 : Int) = (p1 : Int) := wraps62 _ (by omega) (by omega)
  have u1 : IntKind.i64.wrap (r2 : Int) = (r2 : Int) := wraps62 _ (by omega) (by omega)
  have u2 : 256 * (r2 : Int) = (m2 : Int) := by omega
  have u3 : IntKind.i64.wrap (m2 : Int) = (m2 : Int) := wraps62 _ (by omega) (by omega)
  have u4 : IntKind.i64.wrap (r3 : Int) = (r3 : Int) := wraps62 _ (by omega) (by omega)
  have u5 : (m2 : Int) + (r3 : Int) = (p2 : Int) := by omega
  have u6 : IntKind.i64.wrap (p2 : Int) = (p2 : Int) := wraps62 _ (by omega) (by omega)
  have hd0 := fun l : Later wx => l.cell hc0
  have hd1 := fun l : Later wx => l.cell hc1
  replace hm0 := hide hm0
  replace hm2 := hide hm2
  replace e1 := hide e1
  replace e2 := hide e2
  replace hr0 := hide hr0
  replace hr1 := hide hr1
  replace hr2 := hide hr2
  replace hr3 := hide hr3
  have hz9 : g9 < wx.heap.size := (Array.getElem?_eq_some_iff.1 hg9.out).1
  have hz5 : g5 < wx.heap.size := (Array.getElem?_eq_some_iff.1 hgt.out).1
  have hct := blk_cell hgt.out
  have hc9 := blk_cell hg9.out
  conv => arg 2; whnf
  go_wp2_with fail
  clear hct hc9
  refine wp_region_L (by as_aux_lemma => kernel_rfl) ?_
  refine wpE_seg 0 10 (fuel := 2) (by as_aux_lemma => kernel_rfl) (fun d _ _ _ _ h => by cases d <;> exact h) (by as_aux_lemma => kernel_rfl) (by as_aux_lemma => kernel_rfl) ?_
  simp only [List.drop_zero, List.take_succ_cons, List.take_zero]
  iterate 10 (refine wpQE_step (fun K hK => ?_); go_simp; refine hK _ ?_; clear hK K)
  refine wpQE_nil ?_
  refine wpE_end (by as_aux_lemma => kernel_rfl) (fun l => ?_)
  have hg9l := blk_below l.hb hz9 hg9.out
  have hgtl := blk_below l.hb hz5 hgt.out
  have hcgl := blk_cell hg9l
  have hfgl := blk_free hg9l
  refine wpT_step 10 rfl (by as_aux_lemma => kernel_rfl) (fun K hK => ?_)
  go_simp
  refine hK _ _ ?_
  clear hK K
  refine wpT_step 11 rfl (by as_aux_lemma => kernel_rfl) (fun K hK => ?_)
  go_simp
  refine hK _ _ ?_
  clear hK K
  refine wpT_done (by as_aux_lemma => kernel_rfl) ?_ 0
  obtain ⟨w6, e6⟩ : ∃ w6, l.w.setCell ⟨g9, 7, none⟩ (.int .i64 (p1 : Int)) = w6 := ⟨_, rfl⟩
  have hgr6 : l.w.grownBy w6 (some g9) := e6 ▸ grown_set (grown_refl _ _) rfl _
  have hg96 : w6.heap[g9]? = some (.cells #[.int .i64 6, .bool tv, .int .u64 thi, .int .u64 tlo, .bool uv, .int .u64 uhi, .int .u64 ulo, .int .i64 p1, .int .i64 0] 26 (0, 0)) := by
    rw [← e6]
    simpa using blk_set hg9l 7 (.int .i64 p1)
  have hgt6 := grown_blk hgr6 (Nat.lt_of_lt_of_le hz5 l.hb.size) hne.symm hgtl
  have hzl := l.hb.size
  have hcb : ∀ i v, wx.cell? ⟨b, i, none⟩ = some v → w6.cell? ⟨b, i, none⟩ = some v := fun i v h =>
    (World.cell?_of_block (hgr6.block b (Nat.lt_of_lt_of_le hbl hzl) (by simpa using hbl9))).trans (l.cell h)
  have hd2 := fun l : Later w6 => l.cell (hcb _ _ hc2)
  have hd3 := fun l : Later w6 => l.cell (hcb _ _ hc3)
  have hB6 := hBx.out.trans ((l.hb.mono hBx.out.size).trans (grown_below hgr6 (Nat.le_trans hBx.out.size hzl) hwg))
  rw [e6]
  clear e6 hcgl hfgl hg9l hgtl hgr6 hcb hd0 hd1 s1 s2 s3 s4 s5 s6 hc0 hc1 hc2 hc3
  have hz9 : g9 < w6.heap.size := (Array.getElem?_eq_some_iff.1 hg96).1
  have hz5 : g5 < w6.heap.size := (Array.getElem?_eq_some_iff.1 hgt6).1
  replace hg96 := hide hg96
  replace hgt6 := hide hgt6
  replace hB6 := hide hB6
  go_wp2_with fail
  refine wp_region_L (by as_aux_lemma => kernel_rfl) ?_
  refine wpE_seg 0 10 (fuel := 2) (by as_aux_lemma => kernel_rfl) (fun d _ _ _ _ h => by cases d <;> exact h) (by as_aux_lemma => kernel_rfl) (by as_aux_lemma => kernel_rfl) ?_
  simp only [List.drop_zero, List.take_succ_cons, List.take_zero]
  iterate 10 (refine wpQE_step (fun K hK => ?_); go_simp; refine hK _ ?_; clear hK K)
  refine wpQE_nil ?_
  refine wpE_end (by as_aux_lemma => kernel_rfl) (fun l7 => ?_)
  have hg9l := blk_below l7.hb hz9 hg96.out
  have hgtl := blk_below l7.hb hz5 hgt6.out
  have hcgl := blk_cell hg9l
  have hfgl := blk_free hg9l
  refine wpT_step 10 rfl (by as_aux_lemma => kernel_rfl) (fun K hK => ?_)
  go_simp
  refine hK _ _ ?_
  clear hK K
  refine wpT_step 11 rfl (by as_aux_lemma => kernel_rfl) (fun K hK => ?_)
  go_simp
  refine hK _ _ ?_
  clear hK K
  refine wpT_done (by as_aux_lemma => kernel_rfl) ?_ 0
  obtain ⟨w8, e8⟩ : ∃ w8, l7.w.setCell ⟨g9, 8, none⟩ (.int .i64 (p2 : Int)) = w8 := ⟨_, rfl⟩
  have hgr8 : l7.w.grownBy w8 (some g9) := e8 ▸ grown_set (grown_refl _ _) rfl _
  have hg98 : w8.heap[g9]? = some (.cells #[.int .i64 6, .bool tv, .int .u64 thi, .int .u64 tlo, .bool uv, .int .u64 uhi, .int .u64 ulo, .int .i64 p1, .int .i64 p2] 26 (0, 0)) := by
    rw [← e8]
    simpa using blk_set hg9l 8 (.int .i64 p2)
  have hgt8 := grown_blk hgr8 (Nat.lt_of_lt_of_le hz5 l7.hb.size) hne.symm hgtl
  have hB8 := hB6.out.trans ((l7.hb.mono hB6.out.size).trans (grown_below hgr8 (Nat.le_trans hB6.out.size l7.hb.size) hwg))
  rw [e8]
  clear e8 hcgl hfgl hg9l hgtl hgr8 hd2 hd3 u1 u2 u3 u4 u5 u6
  have hct := blk_cell hgt8
  have hc9 := blk_cell hg98
  replace hg98 := hide hg98
  replace hgt8 := hide hgt8
  replace hB8 := hide hB8
  go_wp2_with fail
  refine (awake_any _).mono ?_
  rintro e w9 ⟨rfl, hb9⟩
  clear hct hc9
  replace hb9 := hide hb9
  go_wp2_with fail
  go_ret
  exact ⟨rfl, hB8.out.trans (hb9.out.mono hB8.out.size)⟩
set_option maxRecDepth 20000 in
set_option maxHeartbeats 8000000 in
theorem qB_0b (w w4 wx : World) (g5 g9 : Nat) (v6 : Bool) (G K fr : Nat) (Ar : Option Addr) (cr : Nat) (rs : List UInt8) (tp : Int) (tv : Bool) (thi tlo : Int) (uv : Bool) (uhi ulo sp dp : Int) (p : Int) (av : Bool) (a1 a2 : Int) (bv : Bool) (b1 b2 : Int)
    (hgt : Hid (wx.heap[g5]? = some (.cells #[.int .i64 tp, .bool tv, .int .u64 thi, .int .u64 tlo, .bool uv, .int .u64 uhi, .int .u64 ulo, .int .i64 sp, .int .i64 dp] 26 (0, 0)))) (hg9 : Hid (wx.heap[g9]? = some (.cells #[.int .i64 p, .bool av, .int .u64 a1, .int .u64 a2, .bool bv, .int .u64 b1, .int .u64 b2, .int .i64 0, .int .i64 0] 26 (0, 0)))) (hBx : Hid (Below w.heap.size w wx)) (hrl : rs.length ≤ 300) (hK : K = 0) (hG : G = 0) (hf : fr = 0) (h6 : p = 17) (h4 : 4 ≤ rs.length) (hi : Hid (IsB wx wx.heap.size Ar rs.length rs)) (hne : g9 ≠ g5) (hwg : w.heap.size ≤ g9) (p1 p2 : Nat) (e1 : beN rs 0 2 = p1) (e2 : beN rs 2 2 = p2) (ht : tuV tp tv thi tlo uv uhi ulo sp dp = tuV p av a1 a2 bv b1 b2 p1 p2) (x1 x2 x3 x4 x7 x8 x13 x14 x15 x16 x17 x18 x19 x20 x21 x22 x23 x24 x25 x26 x27 x28 x29 x30 x31 x32 x33 x34 x35 x36 x37 x38 x39 x40 x41 x42 x43 x44 x45 x46 x47 x48 x49 x50 x51 x52 x53 x54 x55 x56 x57 x58 x59 x60 x61 x62 x63 x64 x65 x66 x67 x68 x69 x70 x71 x72 x73 x74 x75 x76 x77 x78 x79 x80 x81 x82 x83 x84 x85 x86 x87 x88 x89 x90 x91 x92 x93 x94 x95 x96 x97 x98 x99 x100 x101 x102 x103 x104 x105 x106 x107 x108 x109 x110 x111 x112 x113 x114 x115 x116 x117 x118 x119 x120 x121 x122 x123 x124 x125 x126 x127 x128 x129 x130 x131 x132 x133 x134 x135 x136 x137 x138 x139 x140 x141 x142 x143 x144 x145 x146 x147 x148 x149 x150 x151 x152 x153 x154 x155 x156 x157 x158 x159 x160 x161 x162 x163 x164 x165 x166 x167 x168 x169 x170 x171 x172 x173 x174 x175 x176 x177 x178 x179 x180 x181 x182 x183 x184 x185 x186 x187 x188 x189 x190 x191 : Value) :
    Code.wp Try.prog (restFrom 24 Try.f12.body) (bodyPost Try.prog Try.f12 fun e w' => e = .returned (.bool true) ∧ Below w.heap.size w w') ⟨#[.bool v6, x1, x2, x3, x4, .pointer (some ⟨g5, 0, none⟩), .int .i64 (G : Int), x7, x8, .pointer (some ⟨g9, 0, none⟩), .slice Ar rs.length cr, .int .i64 (fr : Int), .int .i64 (K : Int), x13, x14, x15, x16, x17, x18, x19, x20, x21, x22, x23, x24, x25, x26, x27, x28, x29, x30, x31, x32, x33, x34, x35, x36, x37, x38, x39, x40, x41, x42, x43, x44, x45, x46, x47, x48, x49, x50, x51, x52, x53, x54, x55, x56, x57, x58, x59, x60, x61, x62, x63, x64, x65, x66, x67, x68, x69, x70, x71, x72, x73, x74, x75, x76, x77, x78, x79, x80, x81, x82, x83, x84, x85, x86, x87, x88, x89, x90, x91, x92, x93, x94, x95, x96, x97, x98, x99, x100, x101, x102, x103, x104, x105, x106, x107, x108, x109, x110, x111, x112, x113, x114, x115, x116, x117, x118, x119, x120, x121, x122, x123, x124, x125, x126, x127, x128, x129, x130, x131, x132, x133, x134, x135, x136, x137, x138, x139, x140, x141, x142, x143, x144, x145, x146, x147, x148, x149, x150, x151, x152, x153, x154, x155, x156, x157, x158, x159, x160, x161, x162, x163, x164, x165, x166, x167, x168, x169, x170, x171, x172, x173, x174, x175, x176, x177, x178, x179, x180, x181, x182, x183, x184, x185, x186, x187, x188, x189, x190, x191], []⟩ wx := by
  simp only [Value.agg.injEq, Array.mk.injEq, List.cons.injEq, Value.int.injEq, Value.bool.injEq, true_and, and_true] at ht
  obtain ⟨rfl, rfl, rfl, rfl, rfl, rfl, rfl, rfl, rfl⟩ := ht
  subst hG hK hf
  subst h6
  have t4 : ¬ (rs.length : Int) < 4 := by omega
  obtain ⟨b, off, r0, rfl, hbl, hr0, hr0l, hc0⟩ := hi.out.byte (i := 0) (by omega)
  obtain ⟨r1, hr1, hr1l, hc1⟩ := hi.out.byteAt (i := 1) (by omega)
  obtain ⟨r2, hr2, hr2l, hc2⟩ := hi.out.byteAt (i := 2) (by omega)
  obtain ⟨r3, hr3, hr3l, hc3⟩ := hi.out.byteAt (i := 3) (by omega)
  rw [Nat.add_zero] at hc0
  simp only [beN, Nat.zero_mul, Nat.zero_add, Nat.reduceAdd, hr0, hr1, hr2, hr3] at e1 e2
  have i0 : (0 : Int) < (rs.length : Int) := by omega
  have i1 : (1 : Int) < (rs.length : Int) := by omega
  have i2 : (2 : Int) < (rs.length : Int) := by omega
  have i3 : (3 : Int) < (rs.length : Int) := by omega
  have j0 : 0 < rs.length := by omega
  have hbl9 : b ≠ g9 := by
    rintro rfl
    have h1 := blk_cell hg9.out off
    rw [hc0] at h1
    rcases off with _ | _ | _ | _ | _ | _ | _ | _ | _ | off <;> simp at h1
  obtain ⟨m0, hm0⟩ : ∃ m0, 256 * r0 = m0 := ⟨_, rfl⟩
  obtain ⟨m2, hm2⟩ : ∃ m2, 256 * r2 = m2 := ⟨_, rfl⟩
  have s1 : IntKind.i64.wrap (r0 : Int) = (r0 : Int) := wraps62 _ (by omega) (by omega)
  have s2 : 256 * (r0 : Int) = (m0 : Int) := by omega
  have s3 : IntKind.i64.wrap (m0 : Int) = (m0 : Int) := wraps62 _ (by omega) (by omega)
  have s4 : IntKind.i64.wrap (r1 : Int) = (r1 : Int) := wraps62 _ (by omega) (by omega)
  have s5 : (m0 : Int) + (r1 : Int) = (p1 : Int) := by omega
  have s6 : IntKind.i64.wrap (p1 : Int) = (p1 : Int) := wraps62 _ (by omega) (by omega)
  have u1 : IntKind.i64.wrap (r2 : Int) = (r2 : Int) := wraps62 _ (by omega) (by omega)
  have u2 : 256 * (r2 : Int) = (m2 : Int) := by omega
  have u3 : IntKind.i64.wrap (m2 : Int) = (m2 : Int) := wraps62 _ (by omega) (by omega)
  have u4 : IntKind.i64.wrap (r3 : Int) = (r3 : Int) := wraps62 _ (by omega) (by omega)
  have u5 : (m2 : Int) + (r3 : Int) = (p2 : Int) := by omega
  have u6 : IntKind.i64.wrap (p2 : Int) = (p2 : Int) := wraps62 _ (by omega) (by omega)
  have hd0 := fun l : Later wx => l.cell hc0
  have hd1 := fun l : Later wx => l.cell hc1
  replace hm0 := hide hm0
  replace hm2 := hide hm2
  replace e1 := hide e1
  replace e2 := hide e2
  replace hr0 := hide hr0
  replace hr1 := hide hr1
  replace hr2 := hide hr2
  replace hr3 := hide hr3
  have hz9 : g9 < wx.heap.size := (Array.getElem?_eq_some_iff.1 hg9.out).1
  have hz5 : g5 < wx.heap.size := (Array.getElem?_eq_some_iff.1 hgt.out).1
  have hct := blk_cell hgt.out
  have hc9 := blk_cell hg9.out
  conv => arg 2; whnf
  go_wp2_with fail
  clear hct hc9
  refine wp_region_L (by as_aux_lemma => kernel_rfl) ?_
  refine wpE_seg 0 10 (fuel := 2) (by as_aux_lemma => kernel_rfl) (fun d _ _ _ _ h => by cases d <;> exact h) (by as_aux_lemma => kernel_rfl) (by as_aux_lemma => kernel_rfl) ?_
  simp only [List.drop_zero, List.take_succ_cons, List.take_zero]
  iterate 10 (refine wpQE_step (fun K hK => ?_); go_simp; refine hK _ ?_; clear hK K)
  refine wpQE_nil ?_
  refine wpE_end (by as_aux_lemma => kernel_rfl) (fun l => ?_)
  have hg9l := blk_below l.hb hz9 hg9.out
  have hgtl := blk_below l.hb hz5 hgt.out
  have hcgl := blk_cell hg9l
  have hfgl := blk_free hg9l
  refine wpT_step 10 rfl (by as_aux_lemma => kernel_rfl) (fun K hK => ?_)
  go_simp
  refine hK _ _ ?_
  clear hK K
  refine wpT_step 11 rfl (by as_aux_lemma => kernel_rfl) (fun K hK => ?_)
  go_simp
  refine hK _ _ ?_
  clear hK K
  refine wpT_done (by as_aux_lemma => kernel_rfl) ?_ 0
  obtain ⟨w6, e6⟩ : ∃ w6, l.w.setCell ⟨g9, 7, none⟩ (.int .i64 (p1 : Int)) = w6 := ⟨_, rfl⟩
  have hgr6 : l.w.grownBy w6 (some g9) := e6 ▸ grown_set (grown_refl _ _) rfl _
  have hg96 : w6.heap[g9]? = some (.cells #[.int .i64 17, .bool tv, .int .u64 thi, .int .u64 tlo, .bool uv, .int .u64 uhi, .int .u64 ulo, .int .i64 p1, .int .i64 0] 26 (0, 0)) := by
    rw [← e6]
    simpa using blk_set hg9l 7 (.int .i64 p1)
  have hgt6 := grown_blk hgr6 (Nat.lt_of_lt_of_le hz5 l.hb.size) hne.symm hgtl
  have hzl := l.hb.size
  have hcb : ∀ i v, wx.cell? ⟨b, i, none⟩ = some v → w6.cell? ⟨b, i, none⟩ = some v := fun i v h =>
    (World.cell?_of_block (hgr6.block b (Nat.lt_of_lt_of_le hbl hzl) (by simpa using hbl9))).trans (l.cell h)
  have hd2 := fun l : Later w6 => l.cell (hcb _ _ hc2)
  have hd3 := fun l : Later w6 => l.cell (hcb _ _ hc3)
  have hB6 := hBx.out.trans ((l.hb.mono hBx.out.size).trans (grown_below hgr6 (Nat.le_trans hBx.out.size hzl) hwg))
  rw [e6]
  clear e6 hcgl hfgl hg9l hgtl hgr6 hcb hd0 hd1 s1 s2 s3 s4 s5 s6 hc0 hc1 hc2 hc3
  have hz9 : g9 < w6.heap.size := (Array.getElem?_eq_some_iff.1 hg96).1
  have hz5 : g5 < w6.heap.size := (Array.getElem?_eq_some_iff.1 hgt6).1
  replace hg96 := hide hg96
  replace hgt6 := hide hgt6
  replace hB6 := hide hB6
  go_wp2_with fail
  refine wp_region_L (by as_aux_lemma => kernel_rfl) ?_
  refine wpE_seg 0 10 (fuel := 2) (by as_aux_lemma => kernel_rfl) (fun d _ _ _ _ h => by cases d <;> exact h) (by as_aux_lemma => kernel_rfl) (by as_aux_lemma => kernel_rfl) ?_
  simp only [List.drop_zero, List.take_succ_cons, List.take_zero]
  iterate 10 (refine wpQE_step (fun K hK => ?_); go_simp; refine hK _ ?_; clear hK K)
  refine wpQE_nil ?_
  refine wpE_end (by as_aux_lemma => kernel_rfl) (fun l7 => ?_)
  have hg9l := blk_below l7.hb hz9 hg96.out
  have hgtl := blk_below l7.hb hz5 hgt6.out
  have hcgl := blk_cell hg9l
  have hfgl := blk_free hg9l
  refine wpT_step 10 rfl (by as_aux_lemma => kernel_rfl) (fun K hK => ?_)
  go_simp
  refine hK _ _ ?_
  clear hK K
  refine wpT_step 11 rfl (by as_aux_lemma => kernel_rfl) (fun K hK => ?_)
  go_simp
  refine hK _ _ ?_
  clear hK K
  refine wpT_done (by as_aux_lemma => kernel_rfl) ?_ 0
  obtain ⟨w8, e8⟩ : ∃ w8, l7.w.setCell ⟨g9, 8, none⟩ (.int .i64 (p2 : Int)) = w8 := ⟨_, rfl⟩
  have hgr8 : l7.w.grownBy w8 (some g9) := e8 ▸ grown_set (grown_refl _ _) rfl _
  have hg98 : w8.heap[g9]? = some (.cells #[.int .i64 17, .bool tv, .int .u64 thi, .int .u64 tlo, .bool uv, .int .u64 uhi, .int .u64 ulo, .int .i64 p1, .int .i64 p2] 26 (0, 0)) := by
    rw [← e8]
    simpa using blk_set hg9l 8 (.int .i64 p2)
  have hgt8 := grown_blk hgr8 (Nat.lt_of_lt_of_le hz5 l7.hb.size) hne.symm hgtl
  have hB8 := hB6.out.trans ((l7.hb.mono hB6.out.size).trans (grown_below hgr8 (Nat.le_trans hB6.out.size l7.hb.size) hwg))
  rw [e8]
  clear e8 hcgl hfgl hg9l hgtl hgr8 hd2 hd3 u1 u2 u3 u4 u5 u6
  have hct := blk_cell hgt8
  have hc9 := blk_cell hg98
  replace hg98 := hide hg98
  replace hgt8 := hide hgt8
  replace hB8 := hide hB8
  go_wp2_with fail
  refine (awake_any _).mono ?_
  rintro e w9 ⟨rfl, hb9⟩
  clear hct hc9
  replace hb9 := hide hb9
  go_wp2_with fail
  go_ret
  exact ⟨rfl, hB8.out.trans (hb9.out.mono hB8.out.size)⟩
end Icmp
end Go.Proofs.Ytniieckjooahfaa
