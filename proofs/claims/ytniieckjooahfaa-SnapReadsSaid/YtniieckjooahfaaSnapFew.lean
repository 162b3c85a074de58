/- Law 44's few, by contract: at most 40 ops of at most 300 bytes each. Condition: a slice of ops that reads as a list. -/
import Derived.Test.YtniieckjooahfaaSnapSmall
import Derived.Test.YtniieckjooahfaaRegionS
namespace Go.Proofs.Ytniieckjooahfaa
open Go.RowKit Go.ChangeShapes Go.WideShapes Go.ChangeAt Go.Deep
namespace Snap
/-- append of an op that has just been written out onto a row of the call's own. -/
theorem wpl_lit_o {w : World} {t : TypeId} {ops : Array Oper} {rest : List Oper} {o : Oper} {a : Act} {Q : Exit → Act → World → Prop} (hgd : o.guard = none) (s x : Operand)
    (ho : o.op = .call { callee := .builtin .append, args := #[s, x], argTypes := #[73, 73] })
    (base : Nat) (v : Value) (n : Nat) (es : List OpD) (e : OpD) (vals : List Value) (c : Nat) (hs : a.eval s = v) (hx : a.eval x = .slice (some ⟨w.heap.size, 0, none⟩) 1 c) (hv : vals = e.cs) (hown : w.ownsRow base 77 6 v n (cells es)) (hbase : base ≤ w.heap.size) (hb : n ≤ 1099511627776)
    (h : ∀ v' w', w'.ownsRow base 77 6 v' (n + 1) (cells (es ++ [e])) → w.grownBy w' v.ownBlock → wpList Try.prog ops Q rest (a.put o.dst v') w') : wpList Try.prog ops Q (o :: rest) a (w.alloc (.cells vals.toArray t)) := by
  subst hv
  obtain ⟨i9, hi9, hiz, his, hib9⟩ := info_parts info_op
  refine wpl_append (w.alloc (.cells e.cs.toArray t)) hgd s x 73 ho base 77 i9 _ 6 72 Try.underlying73 hi9 hiz his hib9 rfl (by omega) v n (cells es) hs (World.ownsRow.alloc hown _) (w.heap.size + 1) (some ⟨w.heap.size, 0, none⟩) 1 c e.cs hx (IsV.lit w t e.cs c 1 rfl) ?_ (by unfold maxLen; omega) (by omega) (by simp; omega) fun v' w' h1 h2 _ => ?_
  · intro u hu
    simp only [OpD.cs, List.mem_cons, List.not_mem_nil, or_false] at hu
    rcases hu with rfl | rfl | rfl | rfl | rfl | rfl <;> rfl
  · exact h v' w' (by simpa [cells] using h1) (grown_alloc_left h2)
theorem row_below {w w' : World} {base : Nat} {v : Value} {e : TypeId} {size n : Nat} {xs : List Value} (h : w.ownsRow base e size v n xs) (hg : w.grownBy w' v.ownBlock) (hb : base ≤ w.heap.size) : Below base w w' := below_of_grown hg hb fun k hk => (World.ownsRow.lt h k hk).1
/-- A row of the call's own is a slice that reads. -/
theorem row_isO {w : World} {base B : Nat} {v : Value} {n : Nat} {es : List OpD} (h : w.ownsRow base 77 6 v n (cells es)) (hB : B ≤ w.heap.size) (hd : ∀ e ∈ es, OkD w B e) : ∃ A c, v = .slice A n c ∧ n ≤ c ∧ c ≤ maxLen ∧ IsO w w.heap.size A n es := by
  obtain ⟨A, c, e, h1, h2, h3⟩ := own_isv h
  have hl := h.1
  rw [cells_length] at hl
  exact ⟨A, c, e, h1, h2, by omega, h3, fun e he => (hd e he).more hB⟩
def cutD (e : OpD) : OpD := ⟨⟨e.o.k, e.o.xs.take 300, e.o.s, e.o.h, e.o.n, e.o.up⟩, e.A, e.c⟩
def fewD (es : List OpD) : List OpD := (es.take 40).map cutD
theorem cut_ok {w : World} {B : Nat} {e : OpD} (h : OkD w B e) : OkD w B (cutD e) := by
  obtain ⟨h1, h2, h3, h4⟩ := h
  refine ⟨?_, ?_, h3, h4⟩
  · have h5 := h1.take (m := min 300 e.o.xs.length) (by omega)
    have : (e.o.xs.take 300).length = min 300 e.o.xs.length := List.length_take
    show IsB w B e.A (e.o.xs.take 300).length (e.o.xs.take 300)
    rw [this]
    have e1 : e.o.xs.take (min 300 e.o.xs.length) = e.o.xs.take 300 := by
      rcases Nat.le_total 300 e.o.xs.length with h | h
      · rw [Nat.min_eq_left h]
      · rw [Nat.min_eq_right h, List.take_of_length_le (Nat.le_refl _), List.take_of_length_le h]
    rw [e1] at h5
    exact h5
  · show (e.o.xs.take 300).length ≤ e.c
    rw [List.length_take]
    omega
theorem few_step {es : List OpD} {j : Nat} {e : OpD} (h : es[j]? = some e) (hj : j < 40) : fewD (es.take (j + 1)) = fewD (es.take j) ++ [cutD e] := by
  obtain ⟨hl, rfl⟩ := List.getElem?_eq_some_iff.1 h
  unfold fewD
  rw [List.take_take, List.take_take, Nat.min_eq_right (by omega), Nat.min_eq_right (by omega), List.take_succ_eq_append_getElem hl, List.map_append]
  rfl
set_option maxRecDepth 20000 in
set_option maxHeartbeats 8000000 in
theorem few_any (A : Option Addr) (n c : Nat) (es : List OpD) (w : World) (hx : IsO w w.heap.size A n es) (hnc : n ≤ c) (hcm : c ≤ maxLen) :
    Calls Try.prog 36 #[.slice A n c] w fun x w' => ∃ A' c', x = .returned (.slice A' (fewD es).length c') ∧ (fewD es).length ≤ c' ∧ c' ≤ maxLen ∧ IsO w' w'.heap.size A' (fewD es).length (fewD es) ∧ Below w.heap.size w w' := by
  unfold maxLen at hcm
  have hel := hx.1
  have hfl : (fewD es).length = min 40 n := by simp [fewD, hel]
  replace hx := hide hx
  replace hfl := hide hfl
  go_enter Try.func36, Try.ntmps36
  go_wp2_with fail
  go_loopw [3, 4] (fun u i wr => ∃ j : Nat, j ≤ n ∧ j ≤ 40 ∧ i = .int .i64 (j : Int) ∧ wr.ownsRow w.heap.size 77 6 u j (cells (fewD (es.take j))) ∧ Below w.heap.size w wr) (fun _ i _ => n - (intOf i).toNat)
  case atStart => exact ⟨0, Nat.zero_le _, by omega, rfl, World.ownsRow_nil _ _ _ 6, Below.refl _ _⟩
  case round =>
    obtain ⟨j, hj, hj40, rfl, hu, hbr⟩ := hrel
    have hxr := hx.out.below hbr
    have zr := hbr.size
    replace hu := hide hu
    replace hbr := hide hbr
    replace hxr := hide hxr
    by_cases hlt : j < n ∧ j < 40
    · obtain ⟨hlt, hlt4⟩ := hlt
      obtain ⟨b, off, e, rfl, hbl, hge, hde, c0, c1, c2, c3, c4, c5⟩ := hxr.out.at hlt
      have hstep := few_step hge hlt4
      have hxc := hde.2.1
      have hcm2 := hde.2.2.1
      unfold maxLen at hcm2
      have t1 : (j : Int) < (n : Int) := by omega
      have t2 : (0 : Int) ≤ (j : Int) := by omega
      have t3 : (j : Int) < 40 := by omega
      obtain ⟨⟨k, ys, s, h, m, up⟩, Ae, ce⟩ := e
      simp only at c0 c1 c2 c3 c4 c5 hxc hcm2
      unfold cutD at hstep
      simp only at hstep
      obtain ⟨sb, hsb⟩ : ∃ sb, str s = sb := ⟨_, rfl⟩
      rw [hsb] at c2
      have hown3 := World.ownsRow.alloc hu.out (.cells #[.int .i64 k, .slice Ae ys.length ce, .string sb, .int .i64 h, .int .i64 m, .bool up] 77)
      have hwr3 : Below w.heap.size wr (wr.alloc (.cells #[.int .i64 k, .slice Ae ys.length ce, .string sb, .int .i64 h, .int .i64 m, .bool up] 77)) := (Below.refl _ _).alloc zr _
      have hbox3 := blk_new wr 77 #[.int .i64 k, .slice Ae ys.length ce, .string sb, .int .i64 h, .int .i64 m, .bool up]
      have hne3 : ∀ k, Value.ownBlock _ = some k → w.heap.size ≤ k ∧ k < wr.heap.size := World.ownsRow.lt hu.out
      obtain ⟨w3, hw3⟩ : ∃ w3, wr.alloc (.cells #[.int .i64 k, .slice Ae ys.length ce, .string sb, .int .i64 h, .int .i64 m, .bool up] 77) = w3 := ⟨_, rfl⟩
      have hz3 : wr.heap.size < w3.heap.size := by rw [← hw3]; simp
      rw [hw3] at hown3 hbox3 hwr3
      have hcg := blk_cell hbox3
      have hB3 := hbr.out.trans hwr3
      by_cases hbig : 300 < ys.length
      · have t4 : (300 : Int) < (ys.length : Int) := by omega
        have hfr := blk_free hbox3
        obtain ⟨w4, e4, hbox4, g4⟩ := set6at1 hbox3 (.slice Ae 300 ce)
        have hcg4 := blk_cell hbox4
        have z4 := g4.size
        have hown4 := World.ownsRow.kept hown3 g4 (by
          rcases hob : Value.ownBlock _ with _ | q
          · exact .inl rfl
          · right
            intro e
            have := (hne3 q hob).2
            cases e
            omega)
        have hB4 := hB3.trans (below_grown g4 (by omega) zr)
        have hlen : (ys.take 300).length = 300 := by rw [List.length_take]; omega
        have hz5 : ∀ x, w.heap.size ≤ (w4.alloc x).heap.size := fun x => by simp; omega
        have hal : ∀ x, Below w.heap.size w4 (w4.alloc x) := fun x => (Below.refl _ _).alloc (by omega) x
        have hsv : [Value.int .i64 k, .slice Ae 300 ce, .string sb, .int .i64 h, .int .i64 m, .bool up] = OpD.cs ⟨⟨k, ys.take 300, s, h, m, up⟩, Ae, ce⟩ := by
          unfold OpD.cs
          simp only
          rw [hlen, hsb]
        clear g4 hne3 hlen hal hz5
        replace hge := hide hge
        replace hde := hide hde
        replace hstep := hide hstep
        replace hsb := hide hsb
        replace hown3 := hide hown3
        replace hbox3 := hide hbox3
        replace hwr3 := hide hwr3
        replace hB3 := hide hB3
        replace hown4 := hide hown4
        replace hbox4 := hide hbox4
        replace hB4 := hide hB4
        replace hsv := hide hsv
        go_wp2_with (at_builtin; refine wpl_lit_o rfl (.tmp 28) (.tmp 30) rfl w.heap.size _ j _ ⟨⟨k, ys.take 300, s, h, m, up⟩, Ae, ce⟩ _ 1 rfl rfl hsv.out hown4.out (by omega) (by omega) ?_)
        intro v5 w5 hown5 hg5
        have hB5 := hB4.out.trans (row_below hown4.out hg5 (by omega))
        rw [← hstep.out] at hown5
        clear hg5
        replace hown5 := hide hown5
        replace hB5 := hide hB5
        go_wp2_with fail
        exact ⟨⟨j + 1, by omega, by omega, by go_num, hown5.out, hB5.out⟩, by simp [intOf]; omega⟩
      · have t4 : ¬ (300 : Int) < (ys.length : Int) := by omega
        have hty : ys.take 300 = ys := List.take_of_length_le (by omega)
        rw [hty] at hstep
        have hsv : [Value.int .i64 k, .slice Ae ys.length ce, .string sb, .int .i64 h, .int .i64 m, .bool up] = OpD.cs ⟨⟨k, ys, s, h, m, up⟩, Ae, ce⟩ := by
          unfold OpD.cs
          simp only
          rw [hsb]
        clear hne3 hty
        replace hge := hide hge
        replace hde := hide hde
        replace hstep := hide hstep
        replace hsb := hide hsb
        replace hown3 := hide hown3
        replace hbox3 := hide hbox3
        replace hwr3 := hide hwr3
        replace hB3 := hide hB3
        replace hsv := hide hsv
        go_wp2_with (at_builtin; refine wpl_lit_o rfl (.tmp 28) (.tmp 30) rfl w.heap.size _ j _ ⟨⟨k, ys, s, h, m, up⟩, Ae, ce⟩ _ 1 rfl rfl hsv.out hown3.out (by omega) (by omega) ?_)
        intro v5 w5 hown5 hg5
        have hB5 := hB3.out.trans (row_below hown3.out hg5 (by omega))
        rw [← hstep.out] at hown5
        clear hg5
        replace hown5 := hide hown5
        replace hB5 := hide hB5
        go_wp2_with fail
        exact ⟨⟨j + 1, by omega, by omega, by go_num, hown5.out, hB5.out⟩, by simp [intOf]; omega⟩
    · have hfin : fewD (es.take j) = fewD es := by
        unfold fewD
        rw [List.take_take]
        by_cases h : j < n
        · rw [show min 40 j = 40 by omega]
        · rw [List.take_of_length_le (show es.length ≤ min 40 j by omega), List.take_of_length_le (show es.length ≤ 40 by omega)]
      have hu' := hu.out
      rw [hfin] at hu'
      have hjl : j = (fewD es).length := by
        have h1 := hu'.1
        rw [cells_length] at h1
        omega
      have hdd : ∀ e ∈ fewD es, OkD wr w.heap.size e := fun e he => by
        obtain ⟨e', he', rfl⟩ := List.mem_map.1 he
        exact cut_ok (hxr.out.2.2 e' (List.mem_of_mem_take he'))
      obtain ⟨A', c', hue, hc1, hc2, hi⟩ := row_isO hu' zr hdd
      rw [hjl] at hi hc1
      replace hfin := hide hfin
      replace hi := hide hi
      replace hdd := hide hdd
      by_cases hjn : j < n
      · have t1 : (j : Int) < (n : Int) := by omega
        have t3 : ¬ (j : Int) < 40 := by omega
        clear hlt hu'
        go_wp2_with fail
        go_ret
        exact ⟨A', c', rfl, hc1, hc2, hi.out, hbr.out⟩
      · have t1 : ¬ (j : Int) < (n : Int) := by omega
        clear hlt hu'
        go_wp2_with fail
        go_ret
        exact ⟨A', c', rfl, hc1, hc2, hi.out, hbr.out⟩
end Snap
end Go.Proofs.Ytniieckjooahfaa
