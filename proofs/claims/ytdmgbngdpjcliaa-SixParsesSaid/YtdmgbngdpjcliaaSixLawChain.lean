/- The law's chain by contract: the headers that extend one, by what comes next. Conditions: slices of bytes that read as lists. -/
import Derived.Test.YtdmgbngdpjcliaaSixRight
namespace Go.Proofs.Ytdmgbngdpjcliaa
open Go.RowKit Go.ChangeShapes Go.WideShapes Go.ChangeAt Go.Deep
namespace Six
/-- append of one that has just been written out onto a row of the call's own. -/
theorem wpl_lit_x {w : World} {t : TypeId} {ops : Array Oper} {rest : List Oper} {o : Oper} {a : Act} {Q : Exit → Act → World → Prop} (hgd : o.guard = none) (s x : Operand)
    (ho : o.op = .call { callee := .builtin .append, args := #[s, x], argTypes := #[27, 27] })
    (base : Nat) (v : Value) (n : Nat) (es : List Ext) (e : Ext) (vals : List Value) (c : Nat) (hs : a.eval s = v) (hx : a.eval x = .slice (some ⟨w.heap.size, 0, none⟩) 1 c) (hv : vals = e.cs) (hown : w.ownsRow base 73 2 v n (cells es)) (hbase : base ≤ w.heap.size) (hb : n ≤ 1099511627776)
    (h : ∀ v' w', w'.ownsRow base 73 2 v' (n + 1) (cells (es ++ [e])) → Below base w w' → w.grownBy w' v.ownBlock → wpList Try.prog ops Q rest (a.put o.dst v') w') : wpList Try.prog ops Q (o :: rest) a (w.alloc (.cells vals.toArray t)) := by
  subst hv
  obtain ⟨i9, hi9, hiz, his, hib9⟩ := info_parts info_ext
  refine wpl_append (w.alloc (.cells e.cs.toArray t)) hgd s x 27 ho base 73 i9 _ 2 32 Try.underlying27 hi9 hiz his hib9 rfl (by omega) v n (cells es) hs (World.ownsRow.alloc hown _) (w.heap.size + 1) (some ⟨w.heap.size, 0, none⟩) 1 c e.cs hx (IsV.lit w t e.cs c 1 rfl) ?_ (by unfold maxLen; omega) (by omega) (by simp; omega) fun v' w' h1 h2 _ => ?_
  · intro u hu
    simp only [Ext.cs, List.mem_cons, List.not_mem_nil, or_false] at hu
    rcases hu with rfl | rfl <;> rfl
  · have hg := grown_alloc_left h2
    exact h v' w' (by simpa [cells] using h1) (below_of_grown hg hbase fun k hk => (World.ownsRow.lt hown k hk).1) hg
/-- How the law's chain ends. -/
def LCh (R : Option (List (Int × List UInt8) × Nat × List UInt8)) (w w' : World) (e : Ending) : Prop :=
  (R = none → e = .returned (.tuple #[.slice none 0 0, .int .i64 0, .slice none 0 0, .bool false])) ∧
  (∀ acc next rest, R = some (acc, next, rest) → ∃ (X : Option Addr) (xc : Nat) (A2 : Option Addr) (c2 : Nat), e = .returned (.tuple #[.slice X acc.length xc, .int .i64 (next : Int), .slice A2 rest.length c2, .bool true]) ∧ IsB w' w.heap.size A2 rest.length rest ∧ rest.length ≤ c2 ∧ c2 ≤ maxLen) ∧ Below w.heap.size w w'
theorem LCh.no {R : Option (List (Int × List UInt8) × Nat × List UInt8)} {w w' : World} (h : R = none) (hb : Below w.heap.size w w') : LCh R w w' (.returned (.tuple #[.slice none 0 0, .int .i64 0, .slice none 0 0, .bool false])) :=
  And.intro (fun _ => rfl) (And.intro (fun _ _ _ h2 => by rw [h] at h2; cases h2) hb)
set_option maxRecDepth 20000 in
set_option maxHeartbeats 8000000 in
theorem lawChain_any (A : Option Addr) (n c : Nat) (xs : List UInt8) (next : Nat) (w : World) (hx : IsB w w.heap.size A n xs) (hnc : n ≤ c) (hcm : c ≤ maxLen) (hnx : next ≤ 255)
    (R : Option (List (Int × List UInt8) × Nat × List UInt8)) (hR : chainF 9 next xs [] = R) :
    Calls Try.prog 16 #[.int .i64 (next : Int), .slice A n c] w fun e w' => LCh R w w' e := by
  replace hx := hide hx
  replace hR := hide hR
  unfold maxLen at hcm
  go_enter Try.func16, Try.ntmps16
  go_wp2_with fail
  go_loopw [0, 1, 8, 9] (fun nv bv ov kv wr => ∃ (next : Nat) (rest : List UInt8) (es : List Ext) (Ar X : Option Addr) (nr cr xc m : Nat), nv = .int .i64 (next : Int) ∧ bv = .slice Ar nr cr ∧ ov = .slice X m xc ∧ kv = .int .i64 (m : Int) ∧ es.length = m ∧ m ≤ 8 ∧ next ≤ 255 ∧ nr ≤ cr ∧ cr ≤ 9223372036854775807 ∧
    IsB wr w.heap.size Ar nr rest ∧ wr.ownsRow w.heap.size 73 2 (.slice X m xc) m (cells es) ∧ (∀ e ∈ es, IsB w w.heap.size e.A e.xs.length e.xs ∧ e.xs.length ≤ e.c ∧ e.c ≤ maxLen) ∧ Below w.heap.size w wr ∧
    (if 0 < fragP (pes es) then (if isB (next : Int) = true then none else some (pes es, next, rest)) else chainF (9 - m) next rest (pes es)) = R) (fun _ _ _ kv _ => 9 - (intOf kv).toNat)
  case atStart => exact ⟨next, xs, [], A, none, n, c, 0, 0, rfl, rfl, rfl, rfl, rfl, by omega, hnx, hnc, by omega, hx.out, World.ownsRow_nil _ _ _ 2, (fun e he => by cases he), Below.refl _ _, hR.out⟩
  case round =>
    obtain ⟨next, rest, es, Ar, X, nr, cr, xc, m, rfl, rfl, rfl, rfl, hm, hm8, hnx2, hnr, hcr, hir, hrow, hes, hbr, hRr⟩ := hrel
    have hm9 : (m : Int) < 9 := by omega
    have hrl := hir.1
    replace hm := hide hm
    replace hir := hide hir
    replace hrow := hide hrow
    replace hes := hide hes
    replace hbr := hide hbr
    replace hrl := hide hrl
    rcases hk : isB (next : Int) with _ | _
    · have hRs : R = some (pes es, next, rest) := by
        rw [← hRr, hk]
        split
        · rfl
        · obtain ⟨f, hf⟩ : ∃ f, 9 - m = f + 1 := ⟨8 - m, by omega⟩
          rw [hf]
          unfold chainF
          rw [if_pos hk]
      clear hRr
      replace hk := hide hk
      replace hRs := hide hRs
      go_wp2_with fail
      refine (lawIs_any next _).mono ?_
      rintro e w' ⟨rfl, rfl⟩
      rw [hk.out]
      go_wp2_with fail
      refine (lawIs_any next _).mono ?_
      rintro e w' ⟨rfl, rfl⟩
      rw [hk.out]
      go_wp2_with fail
      refine bodyPost_ret (v := .tuple #[.slice X m xc, .int .i64 (next : Int), .slice Ar nr cr, .bool true]) (by simp [results, Try.results16, go_sem]) rfl ⟨fun h => (by rw [hRs.out] at h; cases h), fun acc nx rs h => ?_, hbr.out⟩
      rw [hRs.out] at h
      cases h
      refine ⟨X, xc, Ar, cr, ?_, ?_, ?_, ?_⟩
      · rw [pes_length, hm.out, hrl.out]
      · rw [hrl.out]; exact hir.out
      · rw [hrl.out]; exact hnr
      · unfold maxLen; omega
    · obtain ⟨F, hF⟩ : ∃ F, beN (partB es) 1 2 = F := ⟨_, rfl⟩
      obtain ⟨f, hf⟩ : ∃ f, F / 8 = f := ⟨_, rfl⟩
      obtain ⟨mo, hmo⟩ : ∃ mo, decide (F % 2 = 1) = mo := ⟨_, rfl⟩
      have hff : fragP (pes es) = f := by rw [← hf, ← hF, pes_frag]
      rw [hff, hk] at hRr
      have hIX : IsX wr wr.heap.size X m es := by
        obtain ⟨_, _, e, h1, h2, h3⟩ := own_isv hrow.out
        cases e
        exact ⟨hm.out, h3, fun e he => ⟨((hes.out e he).1.below hbr.out).more hbr.out.size, (hes.out e he).2⟩⟩
      have hsz : 8 ≤ sizeP next rest ∧ sizeP next rest ≤ 2048 := by
        have := (rest.getD 1 0).toNat_lt
        unfold sizeP
        split <;> omega
      have hnone : (0 < f ∨ m = 8 ∨ nr < 8 ∨ (next = 0 ∧ 0 < m) ∨ nr < sizeP next rest) → R = none := by
        intro h
        rw [← hRr]
        by_cases h0 : 0 < f
        · rw [if_pos h0]; rfl
        · rw [if_neg h0]
          obtain ⟨g, hg⟩ : ∃ g, 9 - m = g + 1 := ⟨8 - m, by omega⟩
          rw [hg]
          unfold chainF
          rw [if_neg (by rw [hk]; simp), pes_length, hm.out, hrl.out]
          by_cases h1 : m = 8 ∨ nr < 8
          · rw [if_pos h1]
          · rw [if_neg h1, if_pos (by omega)]
      replace hF := hide hF
      replace hf := hide hf
      replace hmo := hide hmo
      replace hff := hide hff
      replace hIX := hide hIX
      replace hk := hide hk
      replace hRr := hide hRr
      replace hnone := hide hnone
      have hxcb : nr ≤ cr := hnr
      go_wp2_with fail
      refine (lawIs_any next _).mono ?_
      rintro e w' ⟨rfl, rfl⟩
      rw [hk.out]
      go_wp2_with fail
      refine (lawFrag_any X m xc es _ hIX.out (by unfold maxLen; omega) F hF.out).mono ?_
      rintro e w2 ⟨rfl, hb2⟩
      rw [hf.out, hmo.out]
      have hB2 := hbr.out.trans (hb2.mono hbr.out.size)
      have hi2 := hir.out.below (hb2.mono hbr.out.size)
      have hrow2 := own_below hrow.out hb2
      clear hb2
      replace hB2 := hide hB2
      replace hi2 := hide hi2
      replace hrow2 := hide hrow2
      by_cases hno : 0 < f ∨ m = 8 ∨ nr < 8 ∨ (next = 0 ∧ 0 < m)
      · have hRn := hnone.out (by omega)
        replace hRn := hide hRn
        go_wp2_with fail
        all_goals exact bodyPost_ret (v := .tuple #[.slice none 0 0, .int .i64 0, .slice none 0 0, .bool false]) (by simp [results, Try.results16, go_sem]) rfl (LCh.no hRn.out hB2.out)
      · have q1 : ¬ (0 : Int) < (f : Int) := by omega
        have q2 : ((m : Int) == 8) = false := by simp; omega
        have q3 : ¬ (nr : Int) < 8 := by omega
        have hz : ((next : Int) == 0) = false ∨ (((next : Int) == 0) = true ∧ ¬ (0 : Int) < (m : Int)) := by
          by_cases h0 : next = 0
          · exact .inr ⟨by simp [h0], by omega⟩
          · exact .inl (by simp; omega)
        obtain ⟨b, off, v0, rfl, hbl, hv0, hv0l, hc0⟩ := hi2.out.byte (i := 0) (by omega)
        obtain ⟨v1, hv1, hv1l, hc1⟩ := hi2.out.byteAt (i := 1) (by omega)
        rw [Nat.add_zero] at hc0
        obtain ⟨s, hs⟩ : ∃ s, sizeP next rest = s := ⟨_, rfl⟩
        rw [hs] at hsz
        have hs44 : next = 44 → (8 : Int) = (s : Int) := fun h => by rw [← hs]; unfold sizeP; rw [if_pos h]; rfl
        have hsn44 : next ≠ 44 → 8 + 8 * (v1 : Int) = (s : Int) := fun h => by rw [← hs]; unfold sizeP; rw [if_neg h, hv1]; omega
        have q4 : (1 : Int) < (nr : Int) := by omega
        have q5 : (0 : Int) < (nr : Int) := by omega
        replace hno := hide hno
        replace hs := hide hs
        replace hv0 := hide hv0
        replace hv1 := hide hv1
        replace hs44 := hide hs44
        replace hsn44 := hide hsn44
        rcases hz with t0 | ⟨t0, t1⟩
        all_goals
          go_upto_if 46 with fail
          go_cut [12] (fun sv wx => sv = .int .i64 (s : Int) ∧ w2 = wx)
          case first =>
            by_cases h44 : next = 44
            · have t44 : ((next : Int) != 44) = false := by simp [h44]
              have hs8 := hs44.out h44
              replace h44 := hide h44
              go_wp2_with fail
              all_goals (go_meet; exact ⟨by rw [← hs8], rfl⟩)
            · have t44 : ((next : Int) != 44) = true := by simp; omega
              have hs8 := hsn44.out h44
              replace h44 := hide h44
              replace hs8 := hide hs8
              go_wp2_with fail
              go_meet
              exact ⟨by rw [← hs8.out], rfl⟩
          case rest =>
            obtain ⟨rfl, rfl⟩ := hcut
            by_cases hsn : nr < s
            · have hRn := hnone.out (by rw [hs.out]; omega)
              have q6 : (nr : Int) < (s : Int) := by omega
              replace hRn := hide hRn
              go_wp2_with fail
              exact bodyPost_ret (v := .tuple #[.slice none 0 0, .int .i64 0, .slice none 0 0, .bool false]) (by simp [results, Try.results16, go_sem]) rfl (LCh.no hRn.out hB2.out)
            · have q6 : ¬ (nr : Int) < (s : Int) := by omega
              have q7 : (1 : Int) ≤ (s : Int) := by omega
              have q8 : (s : Int) ≤ (cr : Int) := by omega
              have q9 : ¬ cr = 1 := by omega
              obtain ⟨ds, hds⟩ : ∃ ds, (rest.take s).drop 1 = ds := ⟨_, rfl⟩
              have hirw := hir.out.keep (w' := w) (fun p hp => (hbr.out.cell hp).symm)
              have hdw : IsB w w.heap.size (some ⟨b, off + 1, none⟩) (s - 1) ds := hds ▸ (hirw.take (m := s) (by omega)).dropAt (k := 1) (cap := cr) (if_neg q9) (by omega) (by omega)
              have hdl := hdw.1
              obtain ⟨A13, hA13⟩ : ∃ A13, (if cr = s then some (⟨b, off, none⟩ : Addr) else some ⟨b, off + s, none⟩) = A13 := ⟨_, rfl⟩
              have hrw := hirw.dropAt (k := s) hA13 (by omega) hnr
              have hRn : (if 0 < fragP (pes es ++ [((next : Int), ds)]) then (if isB (v0 : Int) = true then none else some (pes es ++ [((next : Int), ds)], v0, rest.drop s)) else chainF (9 - (m + 1)) v0 (rest.drop s) (pes es ++ [((next : Int), ds)])) = R := by
                have h1 := hRr.out
                rw [if_neg (by omega)] at h1
                obtain ⟨g, hg⟩ : ∃ g, 9 - m = g + 1 := ⟨8 - m, by have := hno.out; omega⟩
                have hg2 : 9 - (m + 1) = g := by omega
                rw [hg] at h1
                unfold chainF at h1
                have h2 := hno.out
                rw [if_neg (by rw [hk.out]; simp), pes_length, hm.out, hrl.out, if_neg (by omega), hs.out, if_neg (by omega), hds, hv0.out] at h1
                rw [hg2]
                exact h1
              have hzw2 := hB2.out.size
              clear hds hirw
              replace hdw := hide hdw
              replace hdl := hide hdl
              replace hrw := hide hrw
              replace hRn := hide hRn
              replace hA13 := hide hA13
              go_wp2_with (at_builtin; refine wpl_lit_x rfl (.tmp 57) (.tmp 63) rfl w.heap.size (.slice X m xc) m es ⟨(next : Int), some ⟨b, off + 1, none⟩, cr - 1, ds⟩ _ 1 rfl rfl ?_ hrow2.out hzw2 (by omega) ?_)
              · unfold Ext.cs; rw [hdl.out]
              intro v9 w9 hrow9 hb9 _
              obtain ⟨X9, c9, rfl, hc9, hm9', _⟩ := own_isv hrow9
              have hB9 := hB2.out.trans hb9
              have hc09 := (hb9.cell (p := ⟨b, off, none⟩) hbl).trans hc0
              clear hb9 hc0
              have hA13' := hA13.out
              have hes9 : ∀ e ∈ es ++ [(⟨(next : Int), some ⟨b, off + 1, none⟩, cr - 1, ds⟩ : Ext)], IsB w w.heap.size e.A e.xs.length e.xs ∧ e.xs.length ≤ e.c ∧ e.c ≤ maxLen := by
                intro e he
                rw [List.mem_append] at he
                rcases he with he | he
                · exact hes.out e he
                · simp only [List.mem_cons, List.not_mem_nil, or_false] at he
                  subst he
                  refine ⟨?_, ?_, ?_⟩
                  · rw [hdl.out]; exact hdw.out
                  · rw [hdl.out]; dsimp only; omega
                  · unfold maxLen; dsimp only; omega
              have hpe9 : pes (es ++ [(⟨(next : Int), some ⟨b, off + 1, none⟩, cr - 1, ds⟩ : Ext)]) = pes es ++ [((next : Int), ds)] := by simp [pes, Ext.pe]
              replace hrow9 := hide hrow9
              replace hB9 := hide hB9
              replace hes9 := hide hes9
              replace hpe9 := hide hpe9
              go_wp2_with fail
              exact ⟨⟨v0, rest.drop s, _, A13, X9, nr - s, cr - s, c9, m + 1, rfl, rfl, rfl, by go_num, by rw [List.length_append, hm.out]; rfl, by have := hno.out; omega, hv0l, by omega, by omega, hrw.out.below hB9.out, hrow9.out, hes9.out, hB9.out, by rw [hpe9.out]; exact hRn.out⟩, by simp [intOf]; omega⟩
end Six
end Go.Proofs.Ytdmgbngdpjcliaa
