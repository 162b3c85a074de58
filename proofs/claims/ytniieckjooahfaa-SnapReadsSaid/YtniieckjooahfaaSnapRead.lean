/- snap.Read, by contract: the ops that bytes are. Condition: a slice of bytes that reads as a list. -/
import Derived.Test.YtniieckjooahfaaSnapGet
import Derived.Test.YtniieckjooahfaaSnapFew
namespace Go.Proofs.Ytniieckjooahfaa
open Go.RowKit Go.ChangeShapes Go.WideShapes Go.ChangeAt Go.Deep
namespace Snap
theorem get_small (s : St) : (getO s).s.length ≤ 255 ∧ (getO s).xs.length < 4294967296 := by
  unfold getO
  simp only
  have h1 := rawX_len (numV 1 (rawS (numV 4 (rawS 4 (rawS 4 (upS (rawS 1 s))))) (lenS (rawS 4 (rawS 4 (upS (rawS 1 s))))))) (rawS 1 (rawS (numV 4 (rawS 4 (rawS 4 (upS (rawS 1 s))))) (lenS (rawS 4 (rawS 4 (upS (rawS 1 s)))))))
  have h2 := numV_lt 1 (rawS (numV 4 (rawS 4 (rawS 4 (upS (rawS 1 s))))) (lenS (rawS 4 (rawS 4 (upS (rawS 1 s))))))
  have h3 := rawX_len (numV 4 (rawS 4 (rawS 4 (upS (rawS 1 s))))) (lenS (rawS 4 (rawS 4 (upS (rawS 1 s)))))
  have h4 := numV_lt 4 (rawS 4 (rawS 4 (upS (rawS 1 s))))
  have e1 : 256 ^ 1 = 256 := rfl
  have e4 : 256 ^ 4 = 4294967296 := rfl
  omega
/-- How a reading ends. -/
def ReadEnd (xs : List UInt8) (w w' : World) (x : Ending) : Prop :=
  ∃ A' c' es, x = .returned (.tuple #[.slice A' (List.length es) c', .int .i64 (readE xs)]) ∧ es.map OpD.o = readL xs ∧ IsO w' w'.heap.size A' es.length es ∧ es.length ≤ c' ∧ c' ≤ maxLen ∧ Below w.heap.size w w'
/-- The ops' bytes lie in rows of the call's own. -/
def OwnEs (w : World) (base : Nat) (es : List OpD) : Prop := ∀ e ∈ es, OwnB w base (.slice e.A e.o.xs.length e.c) e.o.xs ∧ e.o.s.length ≤ 255
theorem OwnEs.away {w w' : World} {base g : Nat} {es : List OpD} (h : OwnEs w base es) (hg : w.grownBy w' (some g)) (hb : g < base) : OwnEs w' base es := fun e he => ⟨(h e he).1.away hg hb, (h e he).2⟩
theorem OwnEs.row {w w' : World} {base base' n : Nat} {v : Value} {es : List OpD} {xs : List Value} (h : OwnEs w base es) (hr : w.ownsRow base' 77 6 v n xs) (hg : w.grownBy w' v.ownBlock) : OwnEs w' base es := fun e he => ⟨(h e he).1.kept hg (rows_apart (h e he).1 hr (by decide)), (h e he).2⟩
theorem OwnEs.alloc {w : World} {base : Nat} {es : List OpD} (h : OwnEs w base es) (o : Obj) : OwnEs (w.alloc o) base es := fun e he => ⟨(h e he).1.alloc o, (h e he).2⟩
theorem OwnEs.okd {w : World} {base : Nat} {es : List OpD} (h : OwnEs w base es) : ∀ e ∈ es, OkD w w.heap.size e := fun e he => by
  obtain ⟨_, h1, h2, h3⟩ := (h e he).1.reads
  exact ⟨h3, h1, h2, by have := (h e he).2; unfold maxLen; omega⟩
theorem read_done {xs : List UInt8} {w wr : World} {base j : Nat} {u : Value} {es : List OpD} (hRE : readE xs = 0) (hRL : readL xs = es.map OpD.o) (_zr : w.heap.size ≤ wr.heap.size) (hrow : wr.ownsRow base 77 6 u j (cells es)) (hes : OwnEs wr base es) (hb : Below w.heap.size w wr) :
    ReadEnd xs w wr (.returned (.tuple #[u, .int .i64 0])) := by
  have hj := hrow.1
  rw [cells_length] at hj
  obtain ⟨A', c', rfl, h1, h2, hi⟩ := row_isO hrow (Nat.le_refl _) hes.okd
  obtain rfl : es.length = j := by omega
  exact ⟨A', c', es, by rw [hRE], hRL.symm, hi, h1, h2, hb⟩
theorem magic_eq (X : List UInt8) : ((str X).toList == [68, 83, 84, 49]) = decide (X = magic) := by
  rw [show (str X).toList = X from ByteArray.toList_mk X]
  by_cases h : X = magic
  · subst h
    rfl
  · rw [decide_eq_false h, beq_eq_false_iff_ne]
    exact h
set_option maxRecDepth 20000 in
set_option maxHeartbeats 8000000 in
theorem read_any (A : Option Addr) (n c : Nat) (xs : List UInt8) (w : World) (hx : IsB w w.heap.size A n xs) (hnc : n ≤ c) (hcm : c ≤ maxLen) :
    Calls Try.prog 41 #[.slice A n c] w fun x w' => ReadEnd xs w w' x := by
  have hR := reader_any A n c xs w hx hnc hcm
  replace hx := hide hx
  replace hR := hide hR
  go_enter Try.func41, Try.ntmps41
  go_wp2_with fail
  refine hR.out.mono ?_
  rintro e w1 ⟨rfl, hr1, hb1, z1⟩
  have hs1 : w.heap.size < w1.heap.size := by omega
  clear z1 hR
  replace hr1 := hide hr1
  replace hb1 := hide hb1
  go_wp2_with fail
  refine (raw_lit 4 w.heap.size w.heap.size 4 rfl (xs, 0) w1 hr1.out (Nat.le_refl _) (by omega)).mono ?_
  rintro e w2 ⟨A2, n2, c2, rfl, hx2, _, _, hr2, g2⟩
  have z2 := g2.size
  have hB2 := hb1.out.trans (below_grown g2 (by omega) (Nat.le_refl _))
  obtain ⟨X, hX⟩ : ∃ X, rawX 4 (xs, 0) = X := ⟨_, rfl⟩
  obtain ⟨s1, hs1'⟩ : ∃ s1, headS xs = s1 := ⟨_, rfl⟩
  rw [hX] at hx2
  have hst := hx2.str c2
  have hne := magic_eq X
  obtain ⟨bm, hbm⟩ : ∃ bm, decide (X = magic) = bm := ⟨_, rfl⟩
  rw [hbm] at hne
  clear g2 hx2
  replace hr2 := hide hr2
  replace hB2 := hide hB2
  replace hX := hide hX
  replace hs1' := hide hs1'
  replace hbm := hide hbm
  go_upto_if 13 with fail
  go_cut [] (fun wx => ∃ w4, Rd w4 w.heap.size w.heap.size s1 ∧ Below w.heap.size w w4 ∧ w1.heap.size ≤ w4.heap.size ∧ w4 = wx)
  case first =>
    rcases bm with _ | _
    case true =>
      have hm : X = magic := of_decide_eq_true hbm.out
      have hS : rawS 4 (xs, 0) = s1 := by rw [← hs1'.out]; unfold headS; rw [hX.out, if_neg (fun h => h hm)]
      have hr4 := hr2.out
      rw [hS] at hr4
      clear hm
      replace hS := hide hS
      replace hr4 := hide hr4
      go_wp2_with fail
      go_meet
      exact ⟨w2, hr4.out, hB2.out, by omega, rfl⟩
    case false =>
      have hm : ¬ X = magic := of_decide_eq_false hbm.out
      have hS : failS 4 (rawS 4 (xs, 0)) = s1 := by rw [← hs1'.out]; unfold headS; rw [hX.out, if_pos hm]
      clear hm
      replace hS := hide hS
      go_wp2_with fail
      refine (fail_any w.heap.size w.heap.size 4 _ w2 hr2.out (Nat.le_refl _)).mono ?_
      rintro e w3 ⟨rfl, hr3, g3⟩
      have z3 := g3.size
      rw [hS.out] at hr3
      have hB3 := hB2.out.trans (below_grown g3 (by omega) (Nat.le_refl _))
      replace hr3 := hide hr3
      replace hB3 := hide hB3
      replace g3 := hide g3
      go_wp2_with fail
      go_meet
      exact ⟨w3, hr3.out, hB3.out, by omega, rfl⟩
  case rest =>
  obtain ⟨w4, hr4, hB4, z4, rfl⟩ := hcut
  clear hr2 hB2 hne hst
  replace hr4 := hide hr4
  replace hB4 := hide hB4
  go_wp2_with fail
  refine (num_lit 4 w.heap.size w.heap.size 4 rfl s1 _ hr4.out (Nat.le_refl _) (by omega)).mono ?_
  rintro e w5 ⟨rfl, hr5, g5⟩
  have z5 := g5.size
  have hB5 := hB4.out.trans (below_grown g5 (by omega) (Nat.le_refl _))
  obtain ⟨m, hm⟩ : ∃ m, numV 4 s1 = m := ⟨_, rfl⟩
  have hm4 : m < 4294967296 := hm ▸ numV_lt 4 s1
  obtain ⟨s2, hs2⟩ : ∃ s2, countS s1 = s2 := ⟨_, rfl⟩
  rw [hm]
  clear g5 hr4 hB4
  replace hr5 := hide hr5
  replace hB5 := hide hB5
  replace hm := hide hm
  replace hs2 := hide hs2
  go_upto_if 20 with fail
  go_cut [] (fun wx => ∃ w6, Rd w6 w.heap.size w.heap.size s2 ∧ Below w.heap.size w w6 ∧ w1.heap.size ≤ w6.heap.size ∧ w6 = wx)
  case first =>
    by_cases hu : 2048 < m
    · have hS : failS 6 (rawS 4 s1) = s2 := by rw [← hs2.out]; unfold countS; rw [if_pos (by rw [hm.out]; exact hu)]
      have t1 : (2048 : Int) < (m : Int) := by omega
      replace hS := hide hS
      go_wp2_with fail
      refine (fail_any w.heap.size w.heap.size 6 _ w5 hr5.out (Nat.le_refl _)).mono ?_
      rintro e w6 ⟨rfl, hr6, g6⟩
      have z6 := g6.size
      rw [hS.out] at hr6
      have hB6 := hB5.out.trans (below_grown g6 (by omega) (Nat.le_refl _))
      replace hr6 := hide hr6
      replace hB6 := hide hB6
      replace g6 := hide g6
      go_wp2_with fail
      go_meet
      exact ⟨w6, hr6.out, hB6.out, by omega, rfl⟩
    · have hS : rawS 4 s1 = s2 := by rw [← hs2.out]; unfold countS; rw [if_neg (by rw [hm.out]; exact hu)]
      have t1 : ¬ (2048 : Int) < (m : Int) := by omega
      have hr6 := hr5.out
      rw [hS] at hr6
      replace hS := hide hS
      replace hr6 := hide hr6
      go_wp2_with fail
      go_meet
      exact ⟨w5, hr6.out, hB5.out, by omega, rfl⟩
  case rest =>
  obtain ⟨w6, hr6, hB6, z6, rfl⟩ := hcut
  clear hr5 hB5
  have hRe0 : readE xs = (endS (getsS m s2)).2 := by unfold readE readS; rw [hs1'.out, hm.out, hs2.out]
  have hRl0 : getsL (numV 4 (headS xs)) (countS (headS xs)) = getsL m s2 := by rw [hs1'.out, hm.out, hs2.out]
  replace hr6 := hide hr6
  replace hB6 := hide hB6
  replace hRe0 := hide hRe0
  replace hRl0 := hide hRl0
  go_wp2_with fail
  go_loopw [6, 7] (fun u i wr => ∃ (j : Nat) (es : List OpD) (sj : St), j ≤ m ∧ i = .int .i64 (j : Int) ∧ es.length = j ∧ (m ≤ 2048 ∨ s2.2 ≠ 0) ∧ (j ≤ 2048) ∧ wr.ownsRow w1.heap.size 77 6 u j (cells es) ∧ OwnEs wr w1.heap.size es ∧ Rd wr w.heap.size w.heap.size sj ∧ getsS (m - j) sj = getsS m s2 ∧ es.map OpD.o ++ getsL (m - j) sj = getsL m s2 ∧ (s2.2 ≠ 0 → sj = s2) ∧ Below w.heap.size w wr ∧ w1.heap.size ≤ wr.heap.size) (fun _ i _ => m - (intOf i).toNat)
  case atStart =>
    refine ⟨0, [], s2, Nat.zero_le _, rfl, rfl, ?_, by omega, World.ownsRow_nil _ _ _ 6, (fun e he => by cases he), hr6.out, rfl, rfl, fun _ => rfl, hB6.out, z6⟩
    rcases Nat.lt_or_ge 2048 m with h | h
    · right
      rw [← hs2.out]
      unfold countS
      rw [if_pos (by rw [hm.out]; exact h)]
      exact failS_ok (by omega)
    · exact .inl h
  case round =>
    obtain ⟨j, es, sj, hj, rfl, hel, hm8, hj8, hrow, hes, hrd, hgS, hgL, hjz, hbr, hzr⟩ := hrel
    have zr : w.heap.size ≤ wr.heap.size := by omega
    by_cases hgo : j < m ∧ sj.2 = 0
    · obtain ⟨hlt, he0⟩ := hgo
      have t1 : (j : Int) < (m : Int) := by omega
      have hj1 : j + 1 ≤ 2048 := by
        rcases hm8 with h | h
        · omega
        · rw [hjz h] at he0
          exact absurd he0 h
      have hgS' : getsS (m - (j + 1)) (getS sj) = getsS m s2 := by
        rw [← hgS, show m - j = (m - (j + 1)) + 1 by omega, getsS, if_neg (by rw [he0]; simp)]
      have hgL' : es.map OpD.o ++ (getO sj :: getsL (m - (j + 1)) (getS sj)) = getsL m s2 := by
        rw [← hgL, show m - j = (m - (j + 1)) + 1 by omega, getsL, if_neg (by rw [he0]; simp)]
      have hG := get_any w.heap.size w.heap.size sj wr hrd (Nat.le_refl _)
      have hsm := get_small sj
      have hE := err_any w.heap.size w.heap.size sj wr hrd
      rw [he0] at hE
      clear hgS hgL
      replace hrow := hide hrow
      replace hes := hide hes
      replace hrd := hide hrd
      replace hgS' := hide hgS'
      replace hgL' := hide hgL'
      replace hbr := hide hbr
      replace hG := hide hG
      replace he0 := hide he0
      replace hsm := hide hsm
      replace hE := hide hE
      replace hm8 := hide hm8
      replace hjz := hide hjz
      go_wp2_with fail
      refine hE.out.mono ?_
      rintro e w7 ⟨rfl, rfl⟩
      go_wp2_with fail
      refine hG.out.mono ?_
      rintro e w8 ⟨A8, c8, rfl, hown8, hr8, g8⟩
      have z8 := g8.size
      have hrow8 := row_away hrow.out g8 hs1
      have hes8 := hes.out.away g8 hs1
      have hB8 := hbr.out.trans (below_grown g8 zr (Nat.le_refl _))
      have hal : Below w8.heap.size w8 (w8.alloc (.cells (OpD.cs ⟨getO sj, A8, c8⟩).toArray 77)) := (Below.refl _ _).alloc (Nat.le_refl _) _
      obtain ⟨⟨k, ys, s, h, q, up⟩, hgo'⟩ : ∃ o, getO sj = o := ⟨_, rfl⟩
      rw [hgo'] at hown8 hsm hgL'
      rw [hgo']
      unfold OpD.v
      clear g8
      replace hrow8 := hide hrow8
      replace hes8 := hide hes8
      replace hB8 := hide hB8
      replace hown8 := hide hown8
      replace hr8 := hide hr8
      replace hgo' := hide hgo'
      go_wp2_with (at_builtin; refine wpl_lit_o rfl (.tmp 33) (.tmp 36) rfl w1.heap.size _ j es ⟨⟨k, ys, s, h, q, up⟩, A8, c8⟩ _ 1 rfl rfl rfl hrow8.out (by omega) (by omega) ?_)
      intro v9 w9 hrow9 g9
      have z9 := g9.size
      have hB9 := hB8.out.trans (row_below (row_weaken hrow8.out (by omega)) g9 (by omega))
      have hes9 : OwnEs w9 w1.heap.size (es ++ [⟨⟨k, ys, s, h, q, up⟩, A8, c8⟩]) := by
        have h1 := hes8.out.row hrow8.out g9
        intro e he
        rcases List.mem_append.1 he with he | he
        · exact h1 e he
        · obtain rfl : e = ⟨⟨k, ys, s, h, q, up⟩, A8, c8⟩ := by simpa using he
          exact ⟨(hown8.out.weaken (by omega)).kept g9 (rows_apart hown8.out hrow8.out (by decide)), hsm.out.1⟩
      have hr9 := hr8.out.later (Nat.le_refl _) (row_below (row_weaken hrow8.out (show w.heap.size + 1 ≤ w1.heap.size by omega)) g9 (by omega))
      have hgL9 : (es ++ [(⟨⟨k, ys, s, h, q, up⟩, A8, c8⟩ : OpD)]).map OpD.o ++ getsL (m - (j + 1)) (getS sj) = getsL m s2 := by
        rw [← hgL'.out]
        simp
      clear g9
      replace hrow9 := hide hrow9
      replace hB9 := hide hB9
      replace hes9 := hide hes9
      replace hr9 := hide hr9
      replace hgL9 := hide hgL9
      go_wp2_with fail
      exact ⟨⟨j + 1, _, _, by omega, by go_num, by simp [hel], hm8.out, hj1, hrow9.out, hes9.out, hr9.out, hgS'.out, hgL9.out, fun h => absurd (hjz.out h ▸ he0.out) h, hB9.out, by omega⟩, by simp [intOf]; omega⟩
    · have hS : getsS m s2 = sj := by
        rw [← hgS]
        by_cases h : j < m
        · exact gets_bad _ _ fun h0 => hgo ⟨h, h0⟩
        · rw [show m - j = 0 by omega]; rfl
      have hL : getsL m s2 = es.map OpD.o := by
        rw [← hgL]
        by_cases h : j < m
        · rw [show m - j = (m - (j + 1)) + 1 by omega, getsL, if_pos fun h0 => hgo ⟨h, h0⟩, List.append_nil]
        · rw [show m - j = 0 by omega, getsL, List.append_nil]
      have hRe : readE xs = (endS sj).2 := by rw [hRe0.out, hS]
      have hRl : getsL (numV 4 (headS xs)) (countS (headS xs)) = es.map OpD.o := by rw [hRl0.out, hL]
      clear hgS hgL hS hL
      replace hrow := hide hrow
      replace hes := hide hes
      replace hrd := hide hrd
      replace hbr := hide hbr
      by_cases hlt : j < m
      · have t1 : (j : Int) < (m : Int) := by omega
        have he0 : ¬ sj.2 = 0 := fun h => hgo ⟨hlt, h⟩
        have hE : endS sj = sj := by unfold endS; rw [if_neg fun h => he0 h.1]
        have hL0 : leftN sj = 0 := by unfold leftN; rw [if_neg he0]
        clear hgo
        have t9 : (sj.2 == 0) = false := by simpa using he0
        have hRE : readE xs = sj.2 := by rw [hRe, hE]
        have hRL : readL xs = [] := by unfold readL; rw [hRE, if_pos he0]
        have hfin : ReadEnd xs w wr (.returned (.tuple #[.slice none 0 0, .int .i64 sj.2])) := ⟨none, 0, [], by rw [hRE]; rfl, hRL.symm, IsO.nil _ _ _, Nat.le_refl _, by unfold maxLen; omega, hbr.out⟩
        replace hE := hide hE
        replace hL0 := hide hL0
        replace hRE := hide hRE
        replace hRL := hide hRL
        replace he0 := hide he0
        replace hfin := hide hfin
        go_wp2_with fail
        refine (err_any w.heap.size w.heap.size _ _ hrd.out).mono ?_
        rintro e w10 ⟨rfl, rfl⟩
        go_wp2_with fail
        refine (left_any w.heap.size w.heap.size sj _ hrd.out).mono ?_
        rw [hL0.out]
        rintro e w11 ⟨rfl, rfl⟩
        go_wp2_with fail
        refine (err_any w.heap.size w.heap.size _ _ hrd.out).mono ?_
        rintro e w13 ⟨rfl, rfl⟩
        go_wp2_with fail
        refine (err_any w.heap.size w.heap.size _ _ hrd.out).mono ?_
        rintro e w13 ⟨rfl, rfl⟩
        go_wp2_with fail
        go_ret2
        exact hfin.out
      · have t1 : ¬ (j : Int) < (m : Int) := by omega
        clear hgo
        by_cases hleft : sj.2 = 0 ∧ 0 < sj.1.length
        · have hE : endS sj = failS 3 sj := by unfold endS; rw [if_pos hleft]
          obtain ⟨L, hL0⟩ : ∃ L, leftN sj = L := ⟨_, rfl⟩
          have hLp : (0 : Int) < (L : Int) := by rw [← hL0]; unfold leftN; rw [if_pos hleft.1]; omega
          have hf2 : (failS 3 sj).2 = 3 := by unfold failS; simp only; rw [if_pos hleft.1]
          have hRE : readE xs = 3 := by rw [hRe, hE, hf2]
          have hRL : readL xs = [] := by unfold readL; rw [hRE]; rfl
          clear hleft
          replace hE := hide hE
          replace hL0 := hide hL0
          replace hf2 := hide hf2
          replace hRE := hide hRE
          replace hRL := hide hRL
          go_wp2_with fail
          refine (left_any w.heap.size w.heap.size sj _ hrd.out).mono ?_
          rw [hL0.out]
          rintro e w11 ⟨rfl, rfl⟩
          go_wp2_with fail
          refine (fail_any w.heap.size w.heap.size 3 sj _ hrd.out (Nat.le_refl _)).mono ?_
          rintro e w12 ⟨rfl, hr12, g12⟩
          have hB12 := hbr.out.trans (below_grown g12 zr (Nat.le_refl _))
          have z12 := g12.size
          clear g12
          replace hr12 := hide hr12
          replace hB12 := hide hB12
          go_wp2_with fail
          refine (err_any w.heap.size w.heap.size _ _ hr12.out).mono ?_
          rw [hf2.out]
          rintro e w13 ⟨rfl, rfl⟩
          go_wp2_with fail
          refine (err_any w.heap.size w.heap.size _ _ hr12.out).mono ?_
          rw [hf2.out]
          rintro e w13 ⟨rfl, rfl⟩
          have hfin : ReadEnd xs w w12 (.returned (.tuple #[.slice none 0 0, .int .i64 3])) := ⟨none, 0, [], by rw [hRE.out]; rfl, hRL.out.symm, IsO.nil _ _ _, Nat.le_refl _, by unfold maxLen; omega, hB12.out⟩
          replace hfin := hide hfin
          go_wp2_with fail
          go_ret2
          exact hfin.out
        · have hE : endS sj = sj := by unfold endS; rw [if_neg hleft]
          have hL0 : leftN sj = 0 := by
            unfold leftN
            split
            · rename_i h
              rcases Nat.eq_zero_or_pos sj.1.length with h1 | h1
              · exact h1
              · exact absurd ⟨h, h1⟩ hleft
            · rfl
          clear hleft
          by_cases he0 : sj.2 = 0
          · have hRE : readE xs = 0 := by rw [hRe, hE, he0]
            have hRL : readL xs = es.map OpD.o := by unfold readL; rw [hRE, if_neg (by simp), hRl]
            have hfin := read_done hRE hRL zr hrow.out hes.out hbr.out
            replace hE := hide hE
            replace hL0 := hide hL0
            replace hRE := hide hRE
            replace hRL := hide hRL
            replace he0 := hide he0
            replace hfin := hide hfin
            go_wp2_with fail
            refine (left_any w.heap.size w.heap.size sj _ hrd.out).mono ?_
            rw [hL0.out]
            rintro e w11 ⟨rfl, rfl⟩
            go_wp2_with fail
            refine (err_any w.heap.size w.heap.size _ _ hrd.out).mono ?_
            rw [he0.out]
            rintro e w13 ⟨rfl, rfl⟩
            go_wp2_with fail
            go_ret2
            exact hfin.out
          · have t9 : (sj.2 == 0) = false := by simpa using he0
            have hRE : readE xs = sj.2 := by rw [hRe, hE]
            have hRL : readL xs = [] := by unfold readL; rw [hRE, if_pos he0]
            have hfin : ReadEnd xs w wr (.returned (.tuple #[.slice none 0 0, .int .i64 sj.2])) := ⟨none, 0, [], by rw [hRE]; rfl, hRL.symm, IsO.nil _ _ _, Nat.le_refl _, by unfold maxLen; omega, hbr.out⟩
            replace hE := hide hE
            replace hL0 := hide hL0
            replace hRE := hide hRE
            replace hRL := hide hRL
            replace he0 := hide he0
            replace hfin := hide hfin
            go_wp2_with fail
            refine (left_any w.heap.size w.heap.size sj _ hrd.out).mono ?_
            rw [hL0.out]
            rintro e w11 ⟨rfl, rfl⟩
            go_wp2_with fail
            refine (err_any w.heap.size w.heap.size _ _ hrd.out).mono ?_
            rintro e w13 ⟨rfl, rfl⟩
            go_wp2_with fail
            refine (err_any w.heap.size w.heap.size _ _ hrd.out).mono ?_
            rintro e w13 ⟨rfl, rfl⟩
            go_wp2_with fail
            go_ret2
            exact hfin.out
end Snap
end Go.Proofs.Ytniieckjooahfaa
