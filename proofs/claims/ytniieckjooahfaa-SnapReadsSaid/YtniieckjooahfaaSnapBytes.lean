/- snap.Bytes, by contract: ops as bytes. Conditions: a slice of ops that reads as a list, at most 2048. -/
import Derived.Test.YtniieckjooahfaaSnapPut
import Derived.Test.YtniieckjooahfaaPutFull
namespace Go.Proofs.Ytniieckjooahfaa
open Go.RowKit Go.ChangeShapes Go.WideShapes Go.ChangeAt Go.Deep
namespace Snap
/-- May all of them be kept? -/
def okAll (es : List OpD) : Bool := es.all fun e => decide (okOp e.o)
def ops (es : List OpD) : List Op := es.map OpD.o
theorem size_enc {o : Op} (h : okOp o) : (encP o).length ≤ 65813 ∧ 15 ≤ (encP o).length := by
  obtain ⟨_, _, h3, h4, _⟩ := h
  simp only [encP, List.length_append, List.length_cons, List.length_nil, beB_length]
  omega
theorem body_le : ∀ (l : List Op), (∀ o ∈ l, okOp o) → (bodyL l).length ≤ l.length * 65813
  | [], _ => by simp [bodyL]
  | o :: l, h => by
    have h1 := body_le l fun x hx => h x (by simp [hx])
    have h2 := (size_enc (h o (by simp))).1
    simp only [bodyL, List.map_cons, List.flatten_cons, List.length_append, List.length_cons] at h1 ⊢
    omega
def BytesEnd (es : List OpD) (w w' : World) (x : Ending) : Prop :=
  ∃ v, x = .returned (.tuple #[v, .int .i64 (if okAll es = true then 0 else 1)]) ∧ OwnB w' w.heap.size v (if okAll es = true then encL (ops es) else []) ∧ Below w.heap.size w w'
set_option maxRecDepth 20000 in
set_option maxHeartbeats 8000000 in
theorem bytes_any (A : Option Addr) (n c : Nat) (es : List OpD) (w : World) (hx : IsO w w.heap.size A n es) (hnc : n ≤ c) (hcm : c ≤ maxLen) (hn : n ≤ 2048) :
    Calls Try.prog 39 #[.slice A n c] w fun x w' => BytesEnd es w w' x := by
  unfold maxLen at hcm
  have hel := hx.1
  have t0 : ¬ (2048 : Int) < (n : Int) := by omega
  obtain ⟨w1, hcv0, hi1, hb1, hz1⟩ := bytes_const w magic #[.int .u8 68, .int .u8 83, .int .u8 84, .int .u8 49] rfl 4 rfl
  have hcv := hcv0 _ rfl
  clear hcv0
  have hs1 : w.heap.size + 1 ≤ w1.heap.size := by omega
  clear hz1
  replace hx := hide hx
  replace hi1 := hide hi1
  replace hb1 := hide hb1
  go_enter Try.func39, Try.ntmps39
  go_wp2_with fail
  refine (put_full ⟨w.heap.size, 0, none⟩ 4 _ magic (n : Int) 4 n 4 rfl rfl w1 hi1.out hs1 (by omega) (by omega) (by omega) (by omega)).mono ?_
  rintro e w2 ⟨v2, rfl, hown2', hb2⟩
  have hown2 := hown2'.weaken hb1.out.size
  have hB2 := hb1.out.trans (hb2.mono hb1.out.size)
  clear hown2' hb2 hcv
  replace hown2 := hide hown2
  replace hB2 := hide hB2
  go_wp2_with fail
  go_loopw [4, 18] (fun u i wr => ∃ j : Nat, j ≤ n ∧ i = .int .i64 (j : Int) ∧ OwnB wr w.heap.size u ((magic ++ beB n 4) ++ bodyL (ops (es.take j))) ∧ okAll (es.take j) = true ∧ Below w.heap.size w wr) (fun _ i _ => n - (intOf i).toNat)
  case atStart => exact ⟨0, Nat.zero_le _, rfl, by simpa [bodyL, ops] using hown2.out, by simp [okAll], hB2.out⟩
  case round =>
    obtain ⟨j, hj, rfl, hu, hok, hbr⟩ := hrel
    have hxr := hx.out.below hbr
    have zr := hbr.size
    replace hu := hide hu
    replace hok := hide hok
    replace hbr := hide hbr
    replace hxr := hide hxr
    by_cases hlt : j < n
    · obtain ⟨b, off, e, rfl, hbl, hge, hde, c0, c1, c2, c3, c4, c5⟩ := hxr.out.at hlt
      have t1 : (j : Int) < (n : Int) := by omega
      have t2 : (0 : Int) ≤ (j : Int) := by omega
      obtain ⟨⟨k, ys, s, h, m, up⟩, Ae, ce⟩ := e
      simp only at c0 c1 c2 c3 c4 c5
      have hwb : Below w.heap.size w (wr.alloc (.cells #[.int .i64 k, .slice Ae ys.length ce, .string (str s), .int .i64 h, .int .i64 m, .bool up] 77)) := hbr.out.alloc zr _
      have hown3 := hu.out.alloc (.cells #[.int .i64 k, .slice Ae ys.length ce, .string (str s), .int .i64 h, .int .i64 m, .bool up] 77)
      have hbox3 := blk_new wr 77 #[.int .i64 k, .slice Ae ys.length ce, .string (str s), .int .i64 h, .int .i64 m, .bool up]
      have hwr3 : Below w.heap.size wr (wr.alloc (.cells #[.int .i64 k, .slice Ae ys.length ce, .string (str s), .int .i64 h, .int .i64 m, .bool up] 77)) := (Below.refl _ _).alloc zr _
      obtain ⟨w3, hw3⟩ : ∃ w3, wr.alloc (.cells #[.int .i64 k, .slice Ae ys.length ce, .string (str s), .int .i64 h, .int .i64 m, .bool up] 77) = w3 := ⟨_, rfl⟩
      have hz3 : wr.heap.size < w3.heap.size := by rw [← hw3]; simp
      rw [hw3] at hwb hown3 hbox3 hwr3
      have hcg3 := blk_cell hbox3
      have hte : es.take (j + 1) = es.take j ++ [⟨⟨k, ys, s, h, m, up⟩, Ae, ce⟩] := by
        obtain ⟨hj1, e1⟩ := List.getElem?_eq_some_iff.1 hge
        rw [List.take_succ_eq_append_getElem hj1, e1]
      have hR := right_any ⟨⟨k, ys, s, h, m, up⟩, Ae, ce⟩ w3 (by have := hde.2.1; have := hde.2.2.1; simp only at *; omega) hde.2.2.2
      have hlj : (bodyL (ops (es.take j))).length ≤ 2048 * 65813 := by
        have h1 := body_le (ops (es.take j)) (fun o ho => by
          obtain ⟨e, he, rfl⟩ := List.mem_map.1 ho
          have h2 := hok.out
          unfold okAll at h2
          simpa using List.all_eq_true.1 h2 e he)
        have h2 : (ops (es.take j)).length ≤ 2048 := by simp only [ops, List.length_map, List.length_take]; omega
        exact Nat.le_trans h1 (Nat.mul_le_mul_right _ h2)
      have hmem : (⟨⟨k, ys, s, h, m, up⟩, Ae, ce⟩ : OpD) ∈ es := List.mem_of_getElem? hge
      replace hge := hide hge
      replace hde := hide hde
      replace hwb := hide hwb
      replace hown3 := hide hown3
      replace hbox3 := hide hbox3
      replace hte := hide hte
      replace hR := hide hR
      replace hlj := hide hlj
      replace hmem := hide hmem
      replace hwr3 := hide hwr3
      go_wp2_with fail
      refine hR.out.mono ?_
      rintro e w4 ⟨rfl, hb4⟩
      have hbox4 := blk_below hb4 hz3 hbox3.out
      have hown4 := hown3.out.below hb4
      have hB4 := hwb.out.trans (hb4.mono (by omega))
      have z4 := hb4.size
      have hd4 := (hde.out.1.below hwr3.out).below (hb4.mono (show w.heap.size ≤ w3.heap.size by omega))
      clear hcg3 hw3 c0 c1 c2 c3 c4 c5 hb4
      have hcg := blk_cell hbox4
      replace hbox4 := hide hbox4
      replace hown4 := hide hown4
      replace hB4 := hide hB4
      replace hd4 := hide hd4
      by_cases hop : okOp ⟨k, ys, s, h, m, up⟩
      · have hP := put_op w.heap.size _ _ ⟨⟨k, ys, s, h, m, up⟩, Ae, ce⟩ w4 hown4.out (by omega) hop hd4.out (by simp [beB_length, magic]; have := hlj.out; omega)
        rw [decide_eq_true hop]
        replace hop := hide hop
        replace hP := hide hP
        go_wp2_with fail
        refine hP.out.mono ?_
        rintro e w5 ⟨v5, rfl, hown5, hb5⟩
        have hB5 := hB4.out.trans hb5
        clear hcg hb5
        replace hown5 := hide hown5
        replace hB5 := hide hB5
        have hok5 : okAll (es.take (j + 1)) = true := by
          rw [hte.out]
          unfold okAll
          rw [List.all_append]
          have h1 := hok.out
          unfold okAll at h1
          rw [h1]
          simp [hop.out]
        have hown6 : OwnB w5 w.heap.size v5 ((magic ++ beB n 4) ++ bodyL (ops (es.take (j + 1)))) := by
          rw [hte.out]
          have h1 := hown5.out
          simpa [bodyL, ops] using h1
        replace hok5 := hide hok5
        replace hown6 := hide hown6
        go_wp2_with fail
        exact ⟨⟨j + 1, by omega, by go_num, hown6.out, hok5.out, hB5.out⟩, by simp [intOf]; omega⟩
      · rw [decide_eq_false hop]
        have hbad : ¬ okAll es = true := fun h1 => by
          unfold okAll at h1
          have h2 := List.all_eq_true.1 h1 _ hmem.out
          exact hop (by simpa using h2)
        have hfin : BytesEnd es w w4 (.returned (.tuple #[.slice none 0 0, .int .i64 1])) := ⟨_, by rw [if_neg hbad], by rw [if_neg hbad]; exact OwnB.nil _ _, hB4.out⟩
        clear hbad
        replace hop := hide hop
        replace hfin := hide hfin
        go_wp2_with fail
        go_ret2
        exact hfin.out
    · have t1 : ¬ (j : Int) < (n : Int) := by omega
      have htn : es.take j = es := List.take_of_length_le (by omega)
      have hfin : ∀ u, OwnB wr w.heap.size u ((magic ++ beB n 4) ++ bodyL (ops (es.take j))) → BytesEnd es w wr (.returned (.tuple #[u, .int .i64 0])) := by
        intro u h2
        have h1 := hok.out
        rw [htn] at h1 h2
        refine ⟨_, by rw [if_pos h1], ?_, hbr.out⟩
        rw [if_pos h1]
        unfold encL
        rw [← List.append_assoc, show (ops es).length = n by simp [ops, hel]]
        exact h2
      clear htn
      replace hfin := hide hfin
      go_wp2_with fail
      go_ret2
      exact hfin.out _ hu.out
end Snap
end Go.Proofs.Ytniieckjooahfaa
