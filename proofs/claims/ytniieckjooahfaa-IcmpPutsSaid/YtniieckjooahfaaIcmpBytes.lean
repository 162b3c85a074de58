/- icmp.Right and icmp.Bytes by contract. Conditions: slices of bytes that read as lists, below 2^30 bytes. -/
import Derived.Test.YtniieckjooahfaaIcmpParse
import Derived.Test.YtniieckjooahfaaBePlain
namespace Go.Proofs.Ytniieckjooahfaa
open Go.RowKit Go.ChangeShapes Go.WideShapes Go.ChangeAt Go.Deep
namespace Icmp
theorem right_yes (t k : Int) (wd : Value) (A : Option Addr) (n c : Nat) (w : World) (ht : 0 ≤ t ∧ t ≤ 255) (hk : 0 ≤ k ∧ k ≤ 255) (wi : Int) (hw : wd = .int .u32 wi) :
    Calls Try.prog 33 #[.agg #[.int .i64 t, .int .i64 k, wd, .slice A n c]] w fun e w' => e = .returned (.bool true) ∧ Below w.heap.size w w' := by
  subst hw
  obtain ⟨ht0, ht1⟩ := ht
  obtain ⟨hk0, hk1⟩ := hk
  go_enter Try.func33, Try.ntmps33
  go_wp2
  go_ret
  exact ⟨by simp [*], (Below.refl _ _).alloc (Nat.le_refl _) _⟩
theorem right_no (t k : Int) (wi : Int) (A : Option Addr) (n c : Nat) (w : World) (h : ¬ ((0 ≤ t ∧ t ≤ 255) ∧ 0 ≤ k ∧ k ≤ 255)) :
    Calls Try.prog 33 #[.agg #[.int .i64 t, .int .i64 k, .int .u32 wi, .slice A n c]] w fun e w' => e = .returned (.bool false) ∧ Below w.heap.size w w' := by
  by_cases h1 : 0 ≤ t
  · by_cases h2 : t ≤ 255
    · by_cases h3 : 0 ≤ k
      · have h4 : ¬ k ≤ 255 := by omega
        clear h
        go_enter Try.func33, Try.ntmps33
        go_wp2
        go_ret
        exact ⟨by simp <;> omega, (Below.refl _ _).alloc (Nat.le_refl _) _⟩
      · clear h
        go_enter Try.func33, Try.ntmps33
        go_wp2
        go_ret
        exact ⟨by simp <;> omega, (Below.refl _ _).alloc (Nat.le_refl _) _⟩
    · clear h
      go_enter Try.func33, Try.ntmps33
      go_wp2
      go_ret
      exact ⟨by simp <;> omega, (Below.refl _ _).alloc (Nat.le_refl _) _⟩
  · clear h
    go_enter Try.func33, Try.ntmps33
    go_wp2
    go_ret
    exact ⟨by simp <;> omega, (Below.refl _ _).alloc (Nat.le_refl _) _⟩
/-- A message's bytes, the check's two still 0. -/
def head0 (t k wd : Nat) (xs : List UInt8) : List UInt8 := [UInt8.ofNat t, UInt8.ofNat k, 0, 0] ++ (beB wd 4 ++ xs)
def msgB (ps : List UInt8) (t k wd : Nat) (xs : List UInt8) : List UInt8 := setB (head0 t k wd xs) 2 (beB (65535 - Sum.ones (Sum.tot false (ps ++ head0 t k wd xs))) 2)
theorem bytes_no (t k : Int) (wi : Int) (A : Option Addr) (n c : Nat) (P : Option Addr) (m d : Nat) (w : World) (h : ¬ ((0 ≤ t ∧ t ≤ 255) ∧ 0 ≤ k ∧ k ≤ 255)) :
    Calls Try.prog 32 #[.agg #[.int .i64 t, .int .i64 k, .int .u32 wi, .slice A n c], .slice P m d] w fun e w' => e = .returned (.tuple #[.slice none 0 0, .int .i64 1]) ∧ Below w.heap.size w w' := by
  go_enter Try.func32, Try.ntmps32
  go_wp2_with fail
  refine (right_no t k wi A n c _ h).mono ?_
  rintro e w1 ⟨rfl, hb⟩
  go_wp2_with fail
  go_ret2
  exact ⟨rfl, ((Below.refl _ _).alloc (Nat.le_refl _) _).trans (hb.mono (by simp))⟩
theorem isP_two' {w : World} (b : Nat) (hb : w.heap.size = b) {t : TypeId} {A P : Option Addr} {n c m d : Nat} {xs ps : List UInt8} (hx : IsB w w.heap.size A n xs) (hp : IsB w w.heap.size P m ps) (hn : n ≤ maxLen) (hm : m ≤ maxLen) :
    Sum.IsP (w.alloc (.cells #[.slice P m d, .slice A n c] t)) (w.alloc (.cells #[.slice P m d, .slice A n c] t)).heap.size (some ⟨b, 0, none⟩) 2 [⟨P, d, ps⟩, ⟨A, c, xs⟩] := isP_two b hb hx hp hn hm
set_option maxHeartbeats 2000000 in
theorem bytes_yes (t k wd : Nat) (A : Option Addr) (n c : Nat) (P : Option Addr) (m d : Nat) (xs ps : List UInt8) (w : World) (ht : t ≤ 255) (hk : k ≤ 255) (hwd : wd < 4294967296) (hx : IsB w w.heap.size A n xs) (hp : IsB w w.heap.size P m ps) (hn : n ≤ 1073741824) (hm : m ≤ maxLen) :
    Calls Try.prog 32 #[.agg #[.int .i64 (t : Int), .int .i64 (k : Int), .int .u32 (wd : Int), .slice A n c], .slice P m d] w fun e w' => ∃ v, e = .returned (.tuple #[v, .int .i64 0]) ∧ OwnB w' w.heap.size v (msgB ps t k wd xs) ∧ Below w.heap.size w w' := by
  have hxl := hx.1
  replace hx := hide hx
  replace hp := hide hp
  replace hxl := hide hxl
  go_enter Try.func32, Try.ntmps32
  go_wp2_with fail
  refine (right_yes _ _ (.int .u32 (wd : Int)) A n c _ (by omega) (by omega) (wd : Int) rfl).mono ?_
  rintro e w1 ⟨rfl, hb1⟩
  have hblk1 := blk_below hb1 (by simp) (blk_new w 39 #[.int .i64 (t : Int), .int .i64 (k : Int), .int .u32 (wd : Int), .slice A n c])
  have hbw1 : Below w.heap.size w w1 := ((Below.refl _ _).alloc (Nat.le_refl _) _).trans (hb1.mono (by simp))
  have hz1 := hb1.size
  simp only [World.size_alloc] at hz1
  have hlt1 : w.heap.size < w1.heap.size := by omega
  have hcell1 := blk_cell hblk1
  replace hb1 := hide hb1
  replace hbw1 := hide hbw1
  go_wp2_with fail
  have hown0 : OwnB (w1.alloc (.cells #[.int .u8 (t : Int), .int .u8 (k : Int), .int .u8 0, .int .u8 0] 5)) w1.heap.size (.slice (some ⟨w1.heap.size, 0, none⟩) 4 4) [UInt8.ofNat t, UInt8.ofNat k, 0, 0] := by
    refine OwnB.litv w1 w1.heap.size [.int .u8 (t : Int), .int .u8 (k : Int), .int .u8 0, .int .u8 0] [UInt8.ofNat t, UInt8.ofNat k, 0, 0] 4 ?_ rfl (Nat.le_refl _) (by omega)
    simp only [List.map_cons, List.map_nil, u8v_nat t ht, u8v_nat k hk]
    rfl
  refine (put_lit _ _ wd 4 rfl rfl w1.heap.size _ _ _ hown0 (by simp) (by omega) (by omega) (by simp)).mono ?_
  rintro e w2 ⟨v2, rfl, hown2, hg2⟩
  have hb2 := hg2.below hown0 (by simp)
  have hz2 := hb2.size
  simp only [World.size_alloc] at hz2
  have hbw2 : Below w1.heap.size w1 w2 := ((Below.refl _ _).alloc (Nat.le_refl _) _).trans hb2
  have hblk2 := blk_below hbw2 (by omega) hblk1
  have hcell2 := blk_cell hblk2
  have hx2 := (hx.out.on hbw1.out).on hbw2
  clear hcell1
  replace hown0 := hide hown0
  replace hown2 := hide hown2
  replace hg2 := hide hg2
  replace hb2 := hide hb2
  replace hbw2 := hide hbw2
  replace hx2 := hide hx2
  replace hblk1 := hide hblk1
  replace hblk2 := hide hblk2
  go_wp2_with (at_builtin; refine wpl_src_bv rfl (.tmp 21) (.tmp 23) rfl w1.heap.size _ _ xs _ _ _ w2.heap.size rfl rfl hown2.out hx2.out ?_ ?_ ?_)
  · omega
  · simp only [List.length_append, beB_length, List.length_cons, List.length_nil]; omega
  intro v3 w3 hown3 hg3
  have hown3' : OwnB w3 w1.heap.size v3 (head0 t k wd xs) := by rw [head0]; simpa using hown3
  clear hown3
  obtain ⟨A3, c3, rfl, hc3, hm3, hi3⟩ := hown3'.form
  obtain ⟨n3, hn3⟩ : ∃ n3, (head0 t k wd xs).length = n3 := ⟨_, rfl⟩
  have hn3' : n3 = n + 8 := by rw [← hn3, head0]; simp [beB_length, hxl.out]; omega
  rw [hn3] at hc3 hi3 hown3' ⊢
  replace hn3 := hide hn3
  replace hn3' := hide hn3'
  have hn3b : n3 ≤ 1073741832 := by have := hn3'.out; omega
  have hn38 : 8 ≤ n3 := by have := hn3'.out; omega
  have hb3 := hg3.below hown2.out (by omega)
  have hz3 := hb3.size
  have hbw3 : Below w.heap.size w w3 := (hbw1.out.trans (hbw2.out.mono (by omega))).trans (hb3.mono (by omega))
  have hp3 := hp.out.on hbw3
  have hps := isP_two' w3.heap.size rfl (t := 35) (c := c3) (d := d) hi3 hp3 (by unfold maxLen; omega) hm
  have hi4 := hi3.alloc (.cells #[.slice P m d, .slice A3 n3 c3] 35)
  have hle := Sum.ones_le (Sum.tot false (ps ++ head0 t k wd xs))
  have hfl : Sum.flat [⟨P, d, ps⟩, ⟨A3, c3, head0 t k wd xs⟩] = ps ++ head0 t k wd xs := by simp [Sum.flat]
  replace hps := hide hps
  replace hi3 := hide hi3
  replace hi4 := hide hi4
  replace hown3' := hide hown3'
  replace hg3 := hide hg3
  replace hb3 := hide hb3
  replace hbw3 := hide hbw3
  replace hp3 := hide hp3
  replace hfl := hide hfl
  clear hcell2
  go_wp2_with fail
  refine (Sum.check_any _ _ _ _ _ hps.out (by unfold maxLen; omega)).mono ?_
  rintro e w' ⟨rfl, rfl⟩
  rw [hfl.out]
  go_wp2_with fail
  refine (set_in A3 n3 c3 (head0 t k wd xs) 2 (65535 - Sum.ones (Sum.tot false (ps ++ head0 t k wd xs))) 2 _ _ _ rfl rfl rfl _ hi4.out (by omega) (by omega) (by omega) (by omega) (by omega)).mono ?_
  rintro e w4 ⟨v4, rfl, hown4, hb4⟩
  replace hown4 := hide hown4
  replace hb4 := hide hb4
  go_wp2_with fail
  go_ret2
  refine ⟨v4, rfl, ?_, ?_⟩
  · exact hown4.out.weaken (by simp; omega)
  · exact (hbw3.out.alloc (by omega) _).trans (hb4.out.mono (by simp; omega))
end Icmp
end Go.Proofs.Ytniieckjooahfaa
