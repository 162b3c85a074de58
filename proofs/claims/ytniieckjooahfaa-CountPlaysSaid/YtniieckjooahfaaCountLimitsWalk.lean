/- The statement CountLimits, walked: whatever is taken and given, the call returns true and leaves what was there. Conditions: a slice of bools that reads as a list. -/
import Derived.Test.YtniieckjooahfaaLimit
namespace Go.Proofs.Ytniieckjooahfaa
open Go.RowKit Go.ChangeShapes Go.WideShapes Go.ChangeAt Go.Deep
namespace Limit
theorem isL_below {w w' : World} {g : Nat} {n m : Int} (h : IsL w g n m) {B : Nat} (hb : Below B w w') (hg : g < B) : IsL w' g n m := blk_below hb hg h
theorem below_only {w w' : World} {B g : Nat} (hg : w.grownBy w' (some g)) (hB : B ≤ g) (hz : g ≤ w.heap.size) : Below B w w' := ⟨hg.os, hg.tape, hg.output, hg.size, fun k hk => hg.block k (by omega) (fun e => by cases e; omega)⟩
theorem awake31 (w : World) :
    Calls Try.prog 22 #[] w fun e w' => e = .returned (.bool true) ∧ Below w.heap.size w w' := by
  go_enter Try.func22, Try.ntmps22
  go_wp2_with fail
  refine (new_as 1 _).mono ?_
  rintro e w1 ⟨rfl, h1, hb1, hz1⟩
  replace hb1 := hide hb1
  replace h1 := hide h1
  go_wp2_with fail
  refine (take_yes_as _ 0 1 _ h1.out (by omega) (by omega) (by omega)).mono ?_
  rintro e w2 ⟨rfl, h2, hg2⟩
  replace h2 := hide h2
  replace hg2 := hide hg2
  go_wp2_with fail
  refine (take_no _ _ 1 _ h2.out (by omega)).mono ?_
  rintro e w' ⟨rfl, rfl⟩
  go_wp2_with fail
  refine (taken_any _ (0 + 1) 1 _ h2.out).mono ?_
  rintro e w' ⟨rfl, rfl⟩
  go_wp2_with fail
  go_ret
  exact ⟨rfl, hb1.out.trans (below_only hg2.out (Nat.le_refl _) (by omega))⟩
set_option maxHeartbeats 2000000 in
theorem limits_walk (m : Int) (A : Option Addr) (n c : Nat) (bs : List Bool) (w : World) (hm : (Lit.int .i64 m).wf = true) (hx : IsV w w.heap.size 1 A n (bs.map Value.bool)) (hnc : n ≤ c) (hc : c ≤ maxLen) :
    Calls Try.prog 4 #[.int .i64 m, .slice A n c] w fun e w' => e = .returned (.bool true) ∧ Below w.heap.size w w' := by
  have hm' : m ≤ 9223372036854775807 := by
    have : IntKind.i64.min ≤ m ∧ m ≤ IntKind.i64.max := by simpa [Lit.wf] using hm
    simpa [IntKind.max, IntKind.signed, IntKind.bits] using this.2
  unfold maxLen at hc
  go_enter Try.func4, Try.ntmps4
  go_wp2_with fail
  refine (new_as m _).mono ?_
  rintro e w1 ⟨rfl, h1, hb1, hz1⟩
  replace hb1 := hide hb1
  replace h1 := hide h1
  go_wp2_with fail
  go_loopw [6, 7] (fun s i wr => ∃ (k : Nat) (t : Int), k ≤ n ∧ k ≤ 60 ∧ i = .int .i64 (k : Int) ∧ s = .int .i64 t ∧ 0 ≤ t ∧ t ≤ k ∧ IsL wr w.heap.size t (max m 0) ∧ Below w.heap.size w wr ∧ w.heap.size < wr.heap.size) (fun _ i _ => n - (intOf i).toNat)
  case atStart => exact ⟨0, 0, Nat.zero_le _, by omega, rfl, rfl, by omega, by omega, h1.out, hb1.out, hz1⟩
  case round =>
    obtain ⟨k, t, hk, hk60, rfl, rfl, ht0, htk, hl, hb, hz⟩ := hrel
    replace hl := hide hl
    replace hb := hide hb
    by_cases hlt : k < n ∧ k < 60
    · obtain ⟨hlt, hlt60⟩ := hlt
      obtain ⟨b, off, rfl, hbl, hcs⟩ := hx.2 (by omega)
      have hkb : k < (bs.map Value.bool).length := by rw [hx.1]; omega
      have hcell : wr.cell? ⟨b, off + k, none⟩ = some (bs.map Value.bool)[k] := (hb.out.cell hbl).trans (hcs k hkb)
      obtain ⟨v, hv⟩ : ∃ v : Bool, (bs.map Value.bool)[k] = Value.bool v := ⟨bs[k]'(by simpa using hkb), by simp⟩
      rw [hv] at hcell
      clear hcs
      replace hv := hide hv
      cases v
      · by_cases htp : 0 < t
        · go_wp2_with fail
          refine (give_yes_as _ t _ _ hl.out htp (by omega)).mono ?_
          rintro e w2 ⟨rfl, h2, hg2⟩
          have hz2 := hg2.size
          replace h2 := hide h2
          replace hg2 := hide hg2
          go_wp2_with fail
          refine (taken_any _ _ _ _ h2.out).mono ?_
          rintro e w' ⟨rfl, rfl⟩
          go_wp2_with fail
          exact ⟨⟨k + 1, t - 1, by omega, by omega, by go_num, rfl, by omega, by omega, h2.out, hb.out.trans (below_only hg2.out (Nat.le_refl _) (by omega)), by omega⟩, by simp [intOf]; omega⟩
        · go_wp2_with fail
          refine (give_no _ t _ _ hl.out (by omega)).mono ?_
          rintro e w' ⟨rfl, rfl⟩
          go_wp2_with fail
          refine (taken_any _ _ _ _ hl.out).mono ?_
          rintro e w' ⟨rfl, rfl⟩
          go_wp2_with fail
          exact ⟨⟨k + 1, t, by omega, by omega, by go_num, rfl, by omega, by omega, hl.out, hb.out, by omega⟩, by simp [intOf]; omega⟩
      · by_cases htm : t < m
        · have htm' : t < max m 0 := by omega
          go_wp2_with fail
          refine (take_yes_as _ t _ _ hl.out htm' ht0 (by omega)).mono ?_
          rintro e w2 ⟨rfl, h2, hg2⟩
          have hz2 := hg2.size
          replace h2 := hide h2
          replace hg2 := hide hg2
          go_wp2_with fail
          refine (taken_any _ _ _ _ h2.out).mono ?_
          rintro e w' ⟨rfl, rfl⟩
          go_wp2_with fail
          exact ⟨⟨k + 1, t + 1, by omega, by omega, by go_num, rfl, by omega, by omega, h2.out, hb.out.trans (below_only hg2.out (Nat.le_refl _) (by omega)), by omega⟩, by simp [intOf]; omega⟩
        · have htm' : ¬ t < max m 0 := by omega
          go_wp2_with fail
          refine (take_no _ t _ _ hl.out (by omega)).mono ?_
          rintro e w' ⟨rfl, rfl⟩
          go_wp2_with fail
          refine (taken_any _ _ _ _ hl.out).mono ?_
          rintro e w' ⟨rfl, rfl⟩
          go_wp2_with fail
          exact ⟨⟨k + 1, t, by omega, by omega, by go_num, rfl, by omega, by omega, hl.out, hb.out, by omega⟩, by simp [intOf]; omega⟩
    · by_cases hkn : k < n
      · have hk6 : ¬ k < 60 := fun h => hlt ⟨hkn, h⟩
        clear hlt
        go_wp2_with fail
        refine (awake31 _).mono ?_
        rintro e w2 ⟨rfl, hb2⟩
        go_wp2_with fail
        go_ret
        exact ⟨rfl, hb.out.trans (hb2.mono (by omega))⟩
      · clear hlt
        go_wp2_with fail
        refine (awake31 _).mono ?_
        rintro e w2 ⟨rfl, hb2⟩
        go_wp2_with fail
        go_ret
        exact ⟨rfl, hb.out.trans (hb2.mono (by omega))⟩
end Limit
end Go.Proofs.Ytniieckjooahfaa
