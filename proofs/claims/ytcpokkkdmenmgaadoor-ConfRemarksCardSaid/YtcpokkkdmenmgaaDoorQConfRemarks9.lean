/- lex: words. Conditions: texts of at most 2^40 bytes. -/
import Derived.Test.YtcpokkkdmenmgaaDoorQConfRemarks7
import Derived.Test.YtcpokkkdmenmgaaDoorQConfRemarks3
import Derived.Test.YtcpokkkdmenmgaaDoorQConfRemarks2
import Derived.Test.YtcpokkkdmenmgaaDoorQConfRemarks8
import Derived.Test.YtcpokkkdmenmgaaDoorQConfRemarks4
namespace Go.Proofs.YtcpokkkdmenmgaaDoor
open Go.RowKit Go.ChangeShapes Go.WideShapes Go.ChangeAt Go.Deep
namespace Conf18
open Addr05 (str_get str_extract)
def blankAt (s : List UInt8) (i : Nat) : Bool := match s[i]? with | none => true | some c => decide (c.toNat = 32 ∨ c.toNat = 9)
/-- A step of words: what is out, and where a word began. -/
def wStep (s : List UInt8) (i : Nat) (st : List (List UInt8) × Option Nat) : List (List UInt8) × Option Nat :=
  if blankAt s i = true then (match st.2 with | some f => (st.1 ++ [(s.take i).drop f], none) | none => st) else (match st.2 with | none => (st.1, some i) | some _ => st)
def wAt (s : List UInt8) : Nat → List (List UInt8) × Option Nat
  | 0 => ([], none)
  | i + 1 => wStep s i (wAt s i)
def wordsF (s : List UInt8) : List (List UInt8) := (wAt s (s.length + 1)).1
theorem wAt_lt (s : List UInt8) : ∀ i f, (wAt s i).2 = some f → f < i
  | 0, f, h => by cases h
  | i + 1, f, h => by
    have ih := wAt_lt s i
    rw [wAt] at h
    unfold wStep at h
    split at h
    · split at h
      · cases h
      · rename_i h2
        have := ih f h
        omega
    · split at h
      · cases h; omega
      · rename_i h2
        have := ih f h
        omega
theorem wAt_len (s : List UInt8) : ∀ i, (wAt s i).1.length ≤ i
  | 0 => Nat.le_refl _
  | i + 1 => by
    have ih := wAt_len s i
    rw [wAt]
    unfold wStep
    split
    · split
      · rw [List.length_append, List.length_singleton]; omega
      · omega
    · split <;> first | omega | (dsimp only; omega)
theorem info_str : (Tryd.prog.info? 9).map (fun i => (i.zero, i.size, i.bytes)) = some (some (.string ⟨#[]⟩), 1, 16) := by kernel_rfl
abbrev OwnS (w : World) (base : Nat) (v : Value) (xs : List (List UInt8)) : Prop := OwnR 9 (fun s => Value.string (str s)) w base v xs
def frV (o : Option Nat) : Int := match o with | none => -1 | some f => (f : Int)
set_option maxRecDepth 20000 in
set_option maxHeartbeats 8000000 in
theorem words_any (s : List UInt8) (hs : s.length ≤ 1099511627775) (w : World) :
    Calls Tryd.prog 56 #[.string (str s)] w fun e w' => ∃ v, e = .returned v ∧ OwnS w' w.heap.size v (wordsF s) ∧ Below w.heap.size w w' := by
  have hsz : (str s).size = s.length := List.size_toArray
  have wl : IntKind.i64.wrap ((s.length : Int) + 1) = ((s.length + 1 : Nat) : Int) := by rw [wraps62 _ (by omega) (by omega)]; omega
  obtain ⟨L1, hL1⟩ : ∃ L, s.length + 1 = L := ⟨_, rfl⟩
  rw [hL1] at wl
  have hLb : L1 ≤ 1099511627776 := by omega
  replace hL1 := hide hL1
  go_enter Tryd.func56, Tryd.ntmps56
  go_wp2_with fail
  go_loopw [3, 4, 5, 6, 10] (fun v fv _ _ iv wr => ∃ i : Nat, i ≤ L1 ∧ iv = .int .i64 (i : Int) ∧ fv = .int .i64 (frV (wAt s i).2) ∧ OwnS wr w.heap.size v (wAt s i).1 ∧ Below w.heap.size w wr) (fun _ _ _ _ iv _ => L1 - (intOf iv).toNat)
  case atStart => exact ⟨0, by omega, rfl, rfl, OwnR.nil _ _, Below.refl _ _⟩
  case round =>
    obtain ⟨i, hi, rfl, rfl, ho, hb⟩ := hrel
    by_cases hlt : i < L1
    · have i1 : (i : Int) < (L1 : Int) := by omega
      have wi1 : IntKind.i64.wrap ((i : Int) + 1) = ((i + 1 : Nat) : Int) := by rw [wraps62 _ (by omega) (by omega)]; omega
      have hil0 : i ≤ s.length := by have := hL1.out; omega
      have hst : wAt s (i + 1) = wStep s i (wAt s i) := rfl
      have hfl := wAt_lt s i
      have hll := wAt_len s i
      obtain ⟨⟨out, fr⟩, hw⟩ : ∃ x, wAt s i = x := ⟨_, rfl⟩
      rw [hw] at hst hfl hll ho ⊢
      dsimp only at hfl hll ho ⊢
      obtain ⟨A3, c3, hv, -, -, -⟩ := own_isv ho
      subst hv
      clear hw
      obtain ⟨bl, hbl⟩ : ∃ b, blankAt s i = b := ⟨_, rfl⟩
      unfold wStep at hst
      rw [hbl] at hst
      have hbF : bl = true ↔ (i = s.length ∨ ∃ c, s[i]? = some c ∧ (c.toNat = 32 ∨ c.toNat = 9)) := by
        rw [← hbl]
        unfold blankAt
        cases hc : s[i]? with
        | none =>
          have : s.length ≤ i := List.getElem?_eq_none_iff.1 hc
          have := hL1.out
          simp
          omega
        | some c =>
          have : i < s.length := (List.getElem?_eq_some_iff.1 hc).1
          simp
          omega
      replace hst := hide hst
      replace hfl := hide hfl
      replace hll := hide hll
      replace ho := hide ho
      replace hb := hide hb
      replace hbl := hide hbl
      replace hbF := hide hbF
      go_upto_region 6 with fail
      go_cut [6] from 13 to 28 (fun v wx => v = .bool bl ∧ wr = wx)
      case first =>
        by_cases hie : i = s.length
        · have j1 : ((i : Int) == (s.length : Int)) = true := by rw [hie]; simp
          obtain rfl : bl = true := hbF.out.2 (.inl hie)
          have j1' : (i : Int) = (s.length : Int) := by rw [hie]
          replace hie := hide hie
          have j9 := j1'
          clear j1'
          clear j9
          go_wp2_with fail
          go_meet
          exact ⟨rfl, rfl⟩
        · have j1 : ((i : Int) == (s.length : Int)) = false := by rw [beq_eq_false_iff_ne]; omega
          have j1' : ¬ (i : Int) = (s.length : Int) := by omega
          have hil2 : i < s.length := by omega
          have hil3 : (i : Int) < (s.length : Int) := by omega
          obtain ⟨c, hc⟩ : ∃ c, s[i]? = some c := ⟨_, List.getElem?_eq_getElem hil2⟩
          have hks2 : i < (str s).size := by omega
          have ek := str_get s i c hc hks2
          have hbF2 := hbF.out
          obtain ⟨v, hv⟩ : ∃ v, c.toNat = v := ⟨_, rfl⟩
          have ek2 : ((c.toNat : Nat) : Int) = (v : Int) := by rw [hv]
          have hbc : bl = true ↔ (v = 32 ∨ v = 9) := by
            rw [hbF2]
            constructor
            · rintro (h | ⟨c', h1, h2⟩)
              · exact absurd h hie
              · rw [hc] at h1
                cases h1
                rw [hv] at h2
                exact h2
            · intro h
              exact .inr ⟨c, hc, by rw [hv]; exact h⟩
          clear hbF2 hbF
          by_cases h32 : v = 32
          · obtain rfl : bl = true := hbc.2 (.inl h32)
            have k1 : ((v : Int) == 32) = true := by rw [h32]; rfl
            replace h32 := hide h32
            replace hbc := hide hbc
            replace hc := hide hc
            replace hv := hide hv
            replace hie := hide hie
            go_wp2_with fail
            go_meet
            exact ⟨by first | rfl | simp [h32.out], rfl⟩
          · have k1 : ((v : Int) == 32) = false := by rw [beq_eq_false_iff_ne]; omega
            have k1' : ¬ (v : Int) = 32 := by omega
            by_cases h9 : v = 9
            · obtain rfl : bl = true := hbc.2 (.inr h9)
              have k2 : ((v : Int) == 9) = true := by rw [h9]; rfl
              replace h32 := hide h32
              replace h9 := hide h9
              replace hbc := hide hbc
              replace hc := hide hc
              replace hv := hide hv
              replace hie := hide hie
              go_wp2_with fail
              go_meet
              exact ⟨by first | rfl | simp [h9.out], rfl⟩
            · obtain rfl : bl = false := by
                cases bl
                · rfl
                · exact absurd (hbc.1 rfl) (by omega)
              have k2 : ((v : Int) == 9) = false := by rw [beq_eq_false_iff_ne]; omega
              have k2' : ¬ (v : Int) = 9 := by omega
              replace h32 := hide h32
              replace h9 := hide h9
              replace hbc := hide hbc
              replace hc := hide hc
              replace hv := hide hv
              replace hie := hide hie
              go_wp2_with fail
              go_meet
              exact ⟨by first | rfl | simp [k1', k2'], rfl⟩
      case rest =>
      obtain ⟨rfl, rfl⟩ := hcut
      cases bl
      · cases fr with
        | none =>
          dsimp only [frV]
          have hst2 : wAt s (i + 1) = (out, some i) := by have h := hst.out; simpa using h
          replace hst2 := hide hst2
          go_wp2_with fail
          exact ⟨⟨i + 1, by omega, by first | rfl | go_num, by rw [hst2.out]; rfl, by rw [hst2.out]; exact ho.out, hb.out⟩, by simp only [intOf]; omega⟩
        | some f =>
          have i2 : ¬ (f : Int) < 0 := by omega
          dsimp only [frV]
          have hst2 : wAt s (i + 1) = (out, some f) := by have h := hst.out; simpa using h
          replace hst2 := hide hst2
          go_wp2_with fail
          exact ⟨⟨i + 1, by omega, by first | rfl | go_num, by rw [hst2.out]; rfl, by rw [hst2.out]; exact ho.out, hb.out⟩, by simp only [intOf]; omega⟩
      · cases fr with
        | none =>
          dsimp only [frV]
          have hst2 : wAt s (i + 1) = (out, none) := by have h := hst.out; simpa using h
          replace hst2 := hide hst2
          go_wp2_with fail
          exact ⟨⟨i + 1, by omega, by first | rfl | go_num, by rw [hst2.out]; rfl, by rw [hst2.out]; exact ho.out, hb.out⟩, by simp only [intOf]; omega⟩
        | some f =>
          have hfi := hfl.out f rfl
          have hil : i ≤ s.length := by have := hL1.out; omega
          have i2 : (0 : Int) ≤ (f : Int) := by omega
          have i3 : f ≤ i := by omega
          dsimp only [frV]
          have hst2 : wAt s (i + 1) = (out ++ [(s.take i).drop f], none) := by have h := hst.out; simpa using h
          replace hst2 := hide hst2
          have ex := str_extract s f i
          obtain ⟨wd, hwd⟩ : ∃ x, (s.take i).drop f = x := ⟨_, rfl⟩
          rw [hwd] at ex
          have hst3 := hst2.out
          rw [hwd] at hst3
          clear hst2
          have hol : out.length ≤ 1099511627775 := by have := hll.out; omega
          replace hst3 := hide hst3
          replace hwd := hide hwd
          go_upto_region 8 with fail
          apply wp_region_lit
          iterate 6 (refine wpList_plain rfl fun K hK => ?_; go_simp; refine hK _ _ ?_; clear hK K)
          refine wpl_lit_r (e := 9) (f := fun s => Value.string (str s)) Tryd.underlying83 info_str rfl (by omega) (fun _ => rfl) rfl (.tmp 35) (.tmp 40) rfl w.heap.size _ out [wd] 1 1 rfl rfl rfl rfl ho.out hb.out.size (by omega) fun v2 w2 h1 h2 => ?_
          have hb2 := hb.out.trans (below_of_grown h2.grown hb.out.size fun k hk => (World.ownsRow.lt ho.out k hk).1)
          clear h2 ho hb ex
          replace h1 := hide h1
          replace hb2 := hide hb2
          iterate 2 (refine wpList_plain rfl fun K hK => ?_; go_simp; refine hK _ _ ?_; clear hK K)
          refine wpList_nil ?_
          go_simp
          go_wp2_with fail
          exact ⟨⟨i + 1, by omega, by first | rfl | go_num, by rw [hst3.out]; rfl, by rw [hst3.out]; exact h1.out, hb2.out⟩, by simp only [intOf]; omega⟩
    · obtain rfl : i = L1 := by omega
      have hlt : ((i : Int) < (i : Int)) = False := by simp
      obtain ⟨⟨out, fr⟩, hw⟩ : ∃ x, wAt s i = x := ⟨_, rfl⟩
      have hwf : wordsF s = out := by unfold wordsF; rw [hL1.out, hw]
      rw [hw] at ho ⊢
      clear hw
      dsimp only at ho ⊢
      replace ho := hide ho
      replace hb := hide hb
      replace hwf := hide hwf
      go_wp2_with fail
      go_ret
      exact ⟨_, rfl, by rw [hwf.out]; exact ho.out, hb.out⟩
end Conf18
end Go.Proofs.YtcpokkkdmenmgaaDoor
/- lex: Right; strings.Split and Cut of texts of at most 65536 bytes. Condition: the cell of bytealg.MaxLen. -/
namespace Go.Proofs.YtcpokkkdmenmgaaDoor
open Go.RowKit Go.ChangeShapes Go.WideShapes Go.ChangeAt Go.Deep
namespace Conf18
open Addr05 (splitL strv MaxAt below_drews size_str)
theorem split_big (sep : UInt8) (s : List UInt8) (hs : s.length ≤ 65536) (w : World) (hm : MaxAt w) :
    Calls Tryd.prog 54 #[.string (str s), .string (str [sep])] w fun e w' => ∃ A c, e = .returned (.slice A (splitL sep s).length c) ∧ IsR strv w' w'.heap.size A (splitL sep s).length (splitL sep s) ∧ (splitL sep s).length ≤ c ∧ Below w.heap.size w w' := by
  obtain ⟨m, hm⟩ := hm
  refine (Tryd.strings_Split (str s) (str [sep]) m w (by rw [size_str]; omega) hm (by exact Nat.le_refl _)).mono ?_
  rintro e w' ⟨rfl, rfl⟩
  have hlen : (splitL sep s).length = Lib.countB (str s) (str [sep]) + 1 := by
    unfold splitL
    rw [List.length_map]
    exact Lib.splitB_all (str [sep]) (Nat.le_refl _) 0 _ (str s) rfl
  have hmap : (Lib.splitB (str [sep]) 0 (Lib.countB (str s) (str [sep])) (str s)).map Value.string = (splitL sep s).map strv := by
    unfold splitL
    rw [List.map_map]
    rfl
  rw [hmap, ← hlen]
  refine ⟨_, _, rfl, ?_, Nat.le_refl _, (Below.refl _ _).alloc (Nat.le_refl _) _⟩
  exact (IsV.lit w 9 ((splitL sep s).map strv) 0 (splitL sep s).length (by rw [List.length_map]; omega)).more (by simp)
theorem cut_big (sep s : List UInt8) (hs : s.length ≤ 65536) (w : World) (hm : MaxAt w) :
    Calls Tryd.prog 55 #[.string (str s), .string (str sep)] w fun e w' => e = .returned (.tuple #[.string (str (Lib.cut s sep).1), .string (str (Lib.cut s sep).2.1), .bool (Lib.cut s sep).2.2]) ∧ Below w.heap.size w w' := by
  obtain ⟨m, hm⟩ := hm
  refine (Tryd.strings_Cut (str s) (str sep) m w (by rw [size_str]; omega) hm).mono ?_
  rintro e w' ⟨rfl, n, rfl⟩
  exact ⟨rfl, below_drews _ _ n⟩
/-- May a byte stand in a text? -/
def rightC (v : Nat) : Bool := decide ((32 ≤ v ∧ v ≤ 126) ∨ v = 9 ∨ v = 10)
set_option maxRecDepth 20000 in
set_option maxHeartbeats 8000000 in
theorem lexRight_any (v : Nat) (w : World) : Calls Tryd.prog 7 #[.int .u8 (v : Int)] w fun e w' => e = .returned (.bool (rightC v)) ∧ w' = w := by
  obtain ⟨B, hB⟩ : ∃ b, rightC v = b := ⟨_, rfl⟩
  have hb : B = true ↔ ((32 ≤ v ∧ v ≤ 126) ∨ v = 9 ∨ v = 10) := by rw [← hB]; unfold rightC; exact decide_eq_true_iff
  rw [hB]
  clear hB
  by_cases h1 : 32 ≤ v
  · have i1 : (32 : Int) ≤ (v : Int) := by omega
    by_cases h2 : v ≤ 126
    · have i2 : (v : Int) ≤ 126 := by omega
      obtain rfl : B = true := hb.2 (.inl ⟨h1, h2⟩)
      clear hb
      go_enter Tryd.func7, Tryd.ntmps7
      go_wp2_with fail
      go_ret
      exact ⟨by first | rfl | simp [i1, i2], rfl⟩
    · have i2 : ¬ (v : Int) ≤ 126 := by omega
      have i3 : ¬ (v : Int) = 9 := by omega
      have i4 : ¬ (v : Int) = 10 := by omega
      obtain rfl : B = false := by
        cases B
        · rfl
        · exact absurd (hb.1 rfl) (by omega)
      clear hb
      go_enter Tryd.func7, Tryd.ntmps7
      go_wp2_with fail
      go_ret
      exact ⟨by first | rfl | simp [i1, i3, i4], rfl⟩
  · have i1 : ¬ (32 : Int) ≤ (v : Int) := by omega
    by_cases h9 : v = 9
    · subst h9
      obtain rfl : B = true := hb.2 (.inr (.inl rfl))
      clear hb
      go_enter Tryd.func7, Tryd.ntmps7
      go_wp2_with fail
      go_ret
      exact ⟨rfl, rfl⟩
    · by_cases h10 : v = 10
      · subst h10
        obtain rfl : B = true := hb.2 (.inr (.inr rfl))
        clear hb
        go_enter Tryd.func7, Tryd.ntmps7
        go_wp2_with fail
        go_ret
        exact ⟨rfl, rfl⟩
      · have i3 : ¬ (v : Int) = 9 := by omega
        have i4 : ¬ (v : Int) = 10 := by omega
        obtain rfl : B = false := by
          cases B
          · rfl
          · exact absurd (hb.1 rfl) (by omega)
        clear hb
        go_enter Tryd.func7, Tryd.ntmps7
        go_wp2_with fail
        go_ret
        exact ⟨by first | rfl | simp [i3, i4], rfl⟩
end Conf18
end Go.Proofs.YtcpokkkdmenmgaaDoor
/- lex: Lines. Conditions: texts of at most 65536 bytes; the cell of bytealg.MaxLen. -/
namespace Go.Proofs.YtcpokkkdmenmgaaDoor
open Go.RowKit Go.ChangeShapes Go.WideShapes Go.ChangeAt Go.Deep
namespace Conf18
open Addr05 (splitL strv MaxAt size_str str_get split_part split_len cut_len)
/-- A line's words. -/
def lnW (x : List UInt8) : List (List UInt8) := wordsF (Lib.cut x [35]).1
/-- The lines of the first i parts that have words. -/
def lnA (ps : List (List UInt8)) : Nat → List (Nat × List (List UInt8))
  | 0 => []
  | i + 1 => match ps[i]? with
    | none => lnA ps i
    | some x => if lnW x = [] then lnA ps i else lnA ps i ++ [(i + 1, lnW x)]
theorem lnA_len (ps : List (List UInt8)) : ∀ i, (lnA ps i).length ≤ i
  | 0 => Nat.le_refl _
  | i + 1 => by
    have ih := lnA_len ps i
    unfold lnA
    split
    · omega
    · split
      · omega
      · rw [List.length_append, List.length_singleton]; omega
/-- What is wrong with a part; 0: nothing. -/
def lnBad (i : Nat) (x : List UInt8) : Int := if 4096 ≤ i then 3 else if (x.all fun c => rightC c.toNat) = true then 0 else 4
/-- Lines in memory: their row, and each one's row of words. -/
structure LnAt (w : World) (base : Nat) (v : Value) (L : List (Nat × List (List UInt8))) (vs : List Value) : Prop where
  len : vs.length = L.length
  row : w.ownsRow base 95 2 v L.length ((L.zip vs).map fun p => [.int .i64 (p.1.1 : Int), p.2]).flatten
  words : ∀ (i : Nat) (u : Value) (x : Nat × List (List UInt8)), vs[i]? = some u → L[i]? = some x → OwnS w base u x.2
theorem LnAt.below {w w' : World} {base : Nat} {v : Value} {L : List (Nat × List (List UInt8))} {vs : List Value} (h : LnAt w base v L vs) (hb : Below w.heap.size w w') : LnAt w' base v L vs :=
  ⟨h.len, row_on h.row hb, fun i u x h1 h2 => (h.words i u x h1 h2).below hb⟩
theorem LnAt.push {w w' : World} {base : Nat} {v v' u : Value} {L : List (Nat × List (List UInt8))} {vs : List Value} {i : Nat} {W : List (List UInt8)} (h : LnAt w base v L vs) (hu : OwnS w base u W) (_hbase : base ≤ w.heap.size)
    (h1 : w'.ownsRow base 95 2 v' (L.length + 1) (((L.zip vs).map fun p => [.int .i64 (p.1.1 : Int), p.2]).flatten ++ [.int .i64 ((i : Nat) : Int), u])) (h2 : Grew w v w' v') : LnAt w' base v' (L ++ [(i, W)]) (vs ++ [u]) := by
  have hl := h.len
  have keep : ∀ (u : Value) (ws : List (List UInt8)), OwnS w base u ws → OwnS w' base u ws := fun u ws ho => ho.kept h2.grown (rows_apart ho h.row (by decide))
  refine ⟨by simp [hl], ?_, fun j a x h3 h4 => ?_⟩
  · rw [List.zip_append hl.symm, List.map_append, List.flatten_append, List.length_append]
    exact h1
  · rcases Nat.lt_trichotomy j L.length with hj | hj | hj
    · rw [List.getElem?_append_left (by omega)] at h3 h4
      exact keep _ _ (h.words j a x h3 h4)
    · subst hj
      rw [List.getElem?_append_right (by omega)] at h3 h4
      rw [hl] at h3
      simp at h3 h4
      subst h3 h4
      exact keep _ _ hu
    · rw [List.getElem?_eq_none (by simp; omega)] at h4
      cases h4
theorem LnAt.weaken {w : World} {base base' : Nat} {v : Value} {L : List (Nat × List (List UInt8))} {vs : List Value} (h : LnAt w base v L vs) (hb : base' ≤ base) : LnAt w base' v L vs :=
  ⟨h.len, row_weaken h.row hb, fun i u x h1 h2 => OwnR.weaken (h.words i u x h1 h2) hb⟩
theorem info_ln : (Tryd.prog.info? 95).map (fun i => (i.zero, i.size, i.bytes)) = some (some (.agg #[.int .i64 0, .slice none 0 0]), 2, 32) := by kernel_rfl
def LinesEnd (s : List UInt8) (w w' : World) (e : Ending) : Prop :=
  Below w.heap.size w w' ∧
  ((∃ (i : Nat) (x : List UInt8), (splitL 10 s)[i]? = some x ∧ lnBad i x ≠ 0 ∧ (∀ (j : Nat) (y : List UInt8), j < i → (splitL 10 s)[j]? = some y → lnBad j y = 0) ∧ e = .returned (.tuple #[.slice none 0 0, .int .i64 ((i + 1 : Nat) : Int), .int .i64 (lnBad i x)])) ∨
   ((∀ (j : Nat) (y : List UInt8), (splitL 10 s)[j]? = some y → lnBad j y = 0) ∧ ∃ v vs, e = .returned (.tuple #[v, .int .i64 0, .int .i64 0]) ∧ LnAt w' w.heap.size v (lnA (splitL 10 s) (splitL 10 s).length) vs))
set_option maxRecDepth 20000 in
set_option maxHeartbeats 8000000 in
theorem lines_any (s : List UInt8) (hs : s.length ≤ 65536) (w : World) (hm : MaxAt w) :
    Calls Tryd.prog 33 #[.string (str s)] w fun e w' => LinesEnd s w w' e := by
  have hsz : (str s).size = s.length := size_str s
  have i0 : ¬ (65536 : Int) < (s.length : Int) := by omega
  have q := split_big 10 s hs w hm
  have hsl := split_len 10 s
  have hsp := split_part 10 s
  unfold LinesEnd
  obtain ⟨ps, hps⟩ : ∃ ps, splitL 10 s = ps := ⟨_, rfl⟩
  rw [hps] at q hsl hsp ⊢
  obtain ⟨n, hn⟩ : ∃ n, ps.length = n := ⟨_, rfl⟩
  rw [hn] at q hsl ⊢
  have hnb : n ≤ 65537 := by omega
  clear hps
  replace q := hide q
  replace hsp := hide hsp
  replace hm := hide hm
  replace hn := hide hn
  go_enter Tryd.func33, Tryd.ntmps33
  go_wp2_with fail
  refine q.out.mono ?_
  rintro e w1 ⟨A1, c1, rfl, hx1, hc1, hb1⟩
  have hm1 := hm.out.below hb1
  have hz1 := hb1.size
  clear q
  replace hx1 := hide hx1
  replace hb1 := hide hb1
  replace hm1 := hide hm1
  go_wp2_with fail
  go_loopw [5, 6, 7, 8, 9, 16] (fun v _ _ _ _ iv wr => ∃ (i : Nat) (vs : List Value), i ≤ n ∧ iv = .int .i64 (i : Int) ∧ (∀ (j : Nat) (y : List UInt8), j < i → ps[j]? = some y → lnBad j y = 0) ∧ LnAt wr w1.heap.size v (lnA ps i) vs ∧ Below w1.heap.size w1 wr ∧ Below w.heap.size w wr) (fun _ _ _ _ _ iv _ => n - (intOf iv).toNat)
  case atStart => exact ⟨0, [], by omega, rfl, fun j y h => by omega, ⟨rfl, World.ownsRow_nil _ _ _ _, fun i u x h => by simp at h⟩, Below.refl _ _, hb1.out⟩
  case round =>
    obtain ⟨i, vs, hi, rfl, hall, hL, hbr, hB⟩ := hrel
    by_cases hin : i < n
    · have i1 : (i : Int) < (n : Int) := by omega
      obtain ⟨bk, off, x, rfl, hbk, hpi, hcell⟩ := IsR.at (f := strv) (IsV.below hx1.out hbr) hin
      have hxl := hsp.out x (List.mem_of_getElem? hpi)
      have hxs : (str x).size = x.length := size_str x
      have wi1 : IntKind.i64.wrap ((i : Int) + 1) = ((i + 1 : Nat) : Int) := by rw [wraps62 _ (by omega) (by omega)]; omega
      have hll := lnA_len ps i
      have hla : lnA ps (i + 1) = if lnW x = [] then lnA ps i else lnA ps i ++ [(i + 1, lnW x)] := by rw [lnA, hpi]
      have hmr := hm1.out.below hbr
      have hzr := hB.size
      unfold strv at hcell
      obtain ⟨Av, cv, hv, -, -, -⟩ := own_isv hL.row
      subst hv
      obtain ⟨LN, hLN⟩ : ∃ l, lnA ps i = l := ⟨_, rfl⟩
      rw [hLN] at hL hll hla ⊢
      clear hLN
      replace hall := hide hall
      replace hL := hide hL
      replace hbr := hide hbr
      replace hB := hide hB
      replace hpi := hide hpi
      replace hla := hide hla
      replace hmr := hide hmr
      by_cases h40 : 4096 ≤ i
      · have j1 : (4096 : Int) ≤ (i : Int) := by omega
        have hbd : lnBad i x = 3 := by unfold lnBad; rw [if_pos h40]
        replace hbd := hide hbd
        go_wp2_with fail
        refine bodyPost_ret (v := .tuple #[.slice none 0 0, .int .i64 ((i + 1 : Nat) : Int), .int .i64 3]) (by simp [results, Tryd.results33, go_sem]) rfl ?_
        exact ⟨hB.out, .inl ⟨i, x, hpi.out, by rw [hbd.out]; decide, hall.out, by rw [hbd.out]⟩⟩
      · have j1 : ¬ (4096 : Int) ≤ (i : Int) := by omega
        go_wp2_with fail
        go_loopw [8, 27] (fun _ kv wx => ∃ k : Nat, k ≤ x.length ∧ kv = .int .i64 (k : Int) ∧ (∀ (j : Nat) (c : UInt8), j < k → x[j]? = some c → rightC c.toNat = true) ∧ wr = wx) (fun _ kv _ => x.length - (intOf kv).toNat)
        case atStart => exact ⟨0, by omega, rfl, fun j c h => by omega, rfl⟩
        case round =>
          obtain ⟨k, hk, rfl, hgood, rfl⟩ := hrel
          by_cases hkx : k < x.length
          · have k1 : (k : Int) < (x.length : Int) := by omega
            have k2 : (0 : Int) ≤ (k : Int) := by omega
            obtain ⟨c, hc⟩ : ∃ c, x[k]? = some c := ⟨_, List.getElem?_eq_getElem hkx⟩
            have hks2 : k < (str x).size := by omega
            have ek := str_get x k c hc hks2
            have qr := fun w => lexRight_any c.toNat w
            obtain ⟨rb, hrb⟩ : ∃ b, rightC c.toNat = b := ⟨_, rfl⟩
            rw [hrb] at qr
            have wk1 : IntKind.i64.wrap ((k : Int) + 1) = ((k + 1 : Nat) : Int) := by rw [wraps62 _ (by omega) (by omega)]; omega
            replace qr := hide qr
            replace hgood := hide hgood
            replace hc := hide hc
            replace hrb := hide hrb
            go_wp2_with fail
            refine (qr.out wr).mono ?_
            rintro e w3 ⟨rfl, rfl⟩
            cases rb
            · have hbd : lnBad i x = 4 := by
                unfold lnBad
                rw [if_neg h40, if_neg]
                intro h
                have := List.all_eq_true.1 h c (List.mem_of_getElem? hc.out)
                rw [hrb.out] at this
                cases this
              clear qr
              replace hbd := hide hbd
              go_wp2_with fail
              refine bodyPost_ret (v := .tuple #[.slice none 0 0, .int .i64 ((i + 1 : Nat) : Int), .int .i64 4]) (by simp [results, Tryd.results33, go_sem]) rfl ?_
              exact ⟨hB.out, .inl ⟨i, x, hpi.out, by rw [hbd.out]; decide, hall.out, by rw [hbd.out]⟩⟩
            · have hgood2 : ∀ (j : Nat) (c : UInt8), j < k + 1 → x[j]? = some c → rightC c.toNat = true := by
                intro j d hj hd
                by_cases hjk : j = k
                · subst hjk
                  obtain rfl := Option.some.inj (hc.out.symm.trans hd)
                  exact hrb.out
                · exact hgood.out j d (by omega) hd
              clear qr hgood
              replace hgood2 := hide hgood2
              go_wp2_with fail
              exact ⟨⟨k + 1, by omega, by first | rfl | go_num, hgood2.out, by first | rfl | trivial⟩, by simp only [intOf]; omega⟩
          · obtain rfl : k = x.length := by omega
            have k1 : ((x.length : Int) < (x.length : Int)) = False := by simp
            have hbd : lnBad i x = 0 := by
              unfold lnBad
              rw [if_neg h40, if_pos]
              rw [List.all_eq_true]
              intro c hc
              obtain ⟨j, hj⟩ := List.mem_iff_getElem?.1 hc
              exact hgood j c (List.getElem?_eq_some_iff.1 hj).1 hj
            have qc := cut_big [35] x (by omega) wr hmr.out
            have hcl := (cut_len x [35]).1
            clear hgood
            replace hbd := hide hbd
            replace qc := hide qc
            go_wp2_with fail
            refine qc.out.mono ?_
            rintro e w3 ⟨rfl, hb3⟩
            clear qc
            obtain ⟨x1, hx1'⟩ : ∃ l, (Lib.cut x [35]).1 = l := ⟨_, rfl⟩
            rw [hx1'] at hcl ⊢
            have hww : lnW x = wordsF x1 := by unfold lnW; rw [hx1']
            have qw := words_any x1 (by omega)
            rw [← hww] at qw
            clear hx1' hww
            obtain ⟨W, hW⟩ : ∃ l, lnW x = l := ⟨_, rfl⟩
            rw [hW] at qw
            have hla2 := hla.out
            rw [hW] at hla2
            clear hla hW
            have hB3 := hB.out.trans (hb3.mono hzr)
            have hL3 := LnAt.below hL.out hb3
            have hbr3 := hbr.out.trans (hb3.mono hbr.out.size)
            have hz3 := hB3.size
            clear hb3 hL hB hbr
            replace qw := hide qw
            replace hla2 := hide hla2
            replace hB3 := hide hB3
            replace hL3 := hide hL3
            replace hbr3 := hide hbr3
            go_wp2_with fail
            refine (qw.out w3).mono ?_
            rintro e w4 ⟨v4, rfl, hv4, hb4⟩
            clear qw
            have hB4 := hB3.out.trans (hb4.mono hz3)
            have hL4 := LnAt.below hL3.out hb4
            have hbr4 := hbr3.out.trans (hb4.mono hbr3.out.size)
            have hv4' := OwnR.weaken hv4 hbr3.out.size
            have hz4 := hbr4.size
            clear hb4 hL3 hB3 hbr3 hv4
            obtain ⟨A4, c4, rfl, -, -, -⟩ := own_isv hv4'
            have hgood0 : ∀ (j : Nat) (y : List UInt8), j < i + 1 → ps[j]? = some y → lnBad j y = 0 := by
              intro j y hj hy
              by_cases hji : j = i
              · subst hji
                obtain rfl := Option.some.inj (hpi.out.symm.trans hy)
                exact hbd.out
              · exact hall.out j y (by omega) hy
            clear hall hbd
            replace hB4 := hide hB4
            replace hL4 := hide hL4
            replace hbr4 := hide hbr4
            replace hv4' := hide hv4'
            replace hgood0 := hide hgood0
            by_cases hWn : W = []
            · have hla3 := hla2.out
              rw [if_pos hWn] at hla3
              subst hWn
              clear hla2
              replace hla3 := hide hla3
              go_wp2_with fail
              exact ⟨⟨i + 1, vs, by omega, by first | rfl | go_num, hgood0.out, by rw [hla3.out]; exact hL4.out, hbr4.out, hB4.out⟩, by simp only [intOf]; omega⟩
            · have hla3 := hla2.out
              rw [if_neg hWn] at hla3
              have hW0 : (0 : Int) < (W.length : Int) := by have := List.length_pos_iff.2 hWn; omega
              clear hla2 hWn
              have hzL : LN.length ≤ 1099511627774 := by omega
              replace hla3 := hide hla3
              go_upto_region 18 with fail
              apply wp_region_lit
              iterate 6 (refine wpList_plain rfl fun K hK => ?_; go_simp; refine hK _ _ ?_; clear hK K)
              refine wpl_lit_c Tryd.underlying87 info_ln rfl (by decide) (by decide) rfl (.tmp 49) (.tmp 54) rfl w1.heap.size _ LN.length _ [.int .i64 ((i + 1 : Nat) : Int), .slice A4 W.length c4] rfl rfl hL4.out.row rfl (by intro u hu; simp only [List.mem_cons, List.not_mem_nil, or_false] at hu; rcases hu with rfl | rfl <;> rfl) hz4 (by omega) fun v5 w5 h1 h2 => ?_
              have hL5 := hL4.out.push hv4'.out hz4 h1 h2
              have hb5 := below_of_grown h2.grown hz4 fun k hk => (World.ownsRow.lt hL4.out.row k hk).1
              clear h1 h2
              replace hL5 := hide hL5
              replace hb5 := hide hb5
              iterate 1 (refine wpList_plain rfl fun K hK => ?_; go_simp; refine hK _ _ ?_; clear hK K)
              refine wpList_nil ?_
              go_simp
              go_wp2_with fail
              have hbr5 := hbr4.out.trans hb5.out
              exact ⟨⟨i + 1, vs ++ [.slice A4 W.length c4], by omega, by first | rfl | go_num, hgood0.out, by rw [hla3.out]; exact hL5.out, hbr5, hB4.out.trans (hb5.out.mono hz1)⟩, by simp only [intOf]; omega⟩
    · obtain rfl : i = n := by omega
      obtain ⟨Av, cv, hv, -, -, -⟩ := own_isv hL.row
      subst hv
      have i1 : ((i : Int) < (i : Int)) = False := by simp
      have hall2 : ∀ (j : Nat) (y : List UInt8), ps[j]? = some y → lnBad j y = 0 := fun j y h => hall j y (by rw [← hn.out]; exact (List.getElem?_eq_some_iff.1 h).1) h
      clear hall
      replace hall2 := hide hall2
      replace hL := hide hL
      replace hbr := hide hbr
      replace hB := hide hB
      go_wp2_with fail
      refine bodyPost_ret (v := .tuple #[.slice Av (lnA ps i).length cv, .int .i64 0, .int .i64 0]) (by simp [results, Tryd.results33, go_sem]) rfl ?_
      exact ⟨hB.out, .inr ⟨hall2.out, _, vs, rfl, hL.out.weaken hz1⟩⟩
end Conf18
end Go.Proofs.YtcpokkkdmenmgaaDoor
/- addr: V4, V6, Bits; Compare, and the law's less. No condition. -/
namespace Go.Proofs.YtcpokkkdmenmgaaDoor
open Go.RowKit Go.ChangeShapes Go.WideShapes Go.ChangeAt Go.Deep
namespace Addr05
theorem Bits_any (v6 : Bool) (hi lo : Int) (w : World) :
    Calls Tryd.prog 47 #[.agg #[.bool v6, .int .u64 hi, .int .u64 lo]] w fun e w' => e = .returned (.int .i64 (if v6 then 128 else 32)) ∧ Below w.heap.size w w' := by
  cases v6
  · go_enter Tryd.func47, Tryd.ntmps47
    go_wp2_with fail
    go_ret
    exact ⟨rfl, (Below.refl _ _).alloc (Nat.le_refl _) _⟩
  · go_enter Tryd.func47, Tryd.ntmps47
    go_wp2_with fail
    go_ret
    exact ⟨rfl, (Below.refl _ _).alloc (Nat.le_refl _) _⟩
def lessB (a b : Adr) : Bool := if a.v6 = b.v6 then (decide (a.hi < b.hi) || (decide (a.hi = b.hi) && decide (a.lo < b.lo))) else b.v6
def cmpI (a b : Adr) : Int := if a.v6 = b.v6 ∧ a.hi = b.hi ∧ a.lo = b.lo then 0 else if lessB a b then -1 else 1
theorem below2 (w : World) (o o' : Obj) : Below w.heap.size w ((w.alloc o).alloc o') := ((Below.refl _ _).alloc (Nat.le_refl _) _).alloc (by simp) _
end Addr05
end Go.Proofs.YtcpokkkdmenmgaaDoor
/- addr: get: bytes as a number. Conditions: at most 2^40 bytes. -/
namespace Go.Proofs.YtcpokkkdmenmgaaDoor
open Go.RowKit Go.ChangeShapes Go.WideShapes Go.ChangeAt Go.Deep
namespace Addr05
def getN (l : List UInt8) : Nat := l.foldl (fun n c => (n * 256 + c.toNat) % 18446744073709551616) 0
theorem getN_snoc (l : List UInt8) (k : Nat) (h : k < l.length) : getN (l.take (k + 1)) = (getN (l.take k) * 256 + (l.getD k 0).toNat) % 18446744073709551616 := by
  have e : l.take (k + 1) = l.take k ++ [l[k]] := by rw [List.take_add_one, List.getElem?_eq_getElem h]; rfl
  have e2 : l.getD k 0 = l[k] := by rw [List.getD_eq_getElem?_getD, List.getElem?_eq_getElem h]; rfl
  unfold getN
  rw [e, e2, List.foldl_append]
  rfl
theorem getN_lt (l : List UInt8) : getN l < 18446744073709551616 := by
  unfold getN
  rcases List.eq_nil_or_concat l with rfl | ⟨r, x, rfl⟩
  · decide
  · simp only [List.concat_eq_append, List.foldl_append, List.foldl_cons, List.foldl_nil]
    exact Nat.mod_lt _ (by omega)
end Addr05
end Go.Proofs.YtcpokkkdmenmgaaDoor
/- addr: Of, Bit: an address out of bytes; a bit of an address. Conditions: at most 2^40 bytes; numbers of 64 bits. -/
namespace Go.Proofs.YtcpokkkdmenmgaaDoor
open Go.RowKit Go.ChangeShapes Go.WideShapes Go.ChangeAt Go.Deep
/-- A struct is stored, at place o of a block: one operation. -/
theorem wp_st {P : Program} {op : Oper} {a : Act} {w : World} {K : Act → World → Prop} {Q : Exit → Act → World → Prop} (ty : TypeId) (x y : Operand) (ho : op.op = .store ty x y) (g o : Nat) (hx : a.eval x = .pointer (some ⟨g, o, none⟩)) (vs : Array Value) (hy : a.eval y = .agg vs)
    {cs : Array Value} {t : TypeId} (hc : w.heap[g]? = some (.cells cs t (0, 0))) (hn : o + vs.size ≤ cs.size) (hi : (P.info? ty).map (·.size) = some vs.size) (h1 : vs.all (·.oneCell') = true)
    (h : ∀ w', w'.heap[g]? = some (.cells (putA cs o vs.toList) t (0, 0)) → w.grownBy w' (some g) → K (a.put op.dst undef) w') : op.wp P a w K Q := by
  obtain ⟨w', e, h2, h3⟩ := stored_at (o := o) hc vs.toList (by simpa using hn)
  refine wp_store_mid ty x y ho g o vs hx hy (blk_there hc hn) hi h1 ?_
  rw [e]
  exact h w' h2 h3
namespace Addr05
def ofR (xs : List UInt8) : Option Adr := if xs.length = 4 then some ⟨false, 0, getN xs % 4294967296⟩ else if xs.length = 16 then some ⟨true, getN (xs.take 8), getN (xs.drop 8)⟩ else none
theorem u64_and1 (n : Nat) (hn : n < 18446744073709551616) (s : Nat) : bits .and .u64 ((n : Int) / 2 ^ s) 1 = ((n / 2 ^ s % 2 : Nat) : Int) := by
  have e : (n : Int) / 2 ^ s = ((n / 2 ^ s : Nat) : Int) := by push_cast; rfl
  have e2 : n / 2 ^ s ≤ n := Nat.div_le_self _ _
  rw [e]
  obtain ⟨q, hq⟩ : ∃ q, n / 2 ^ s = q := ⟨_, rfl⟩
  rw [hq] at e2 ⊢
  exact bits_mask .u64 64 (by decide) wrapsu64 1 (by decide) _ (by omega) (by omega)
def bitI (a : Adr) (i : Int) : Int := if 0 ≤ i then (a.bit i.toNat : Int) else 0
end Addr05
end Go.Proofs.YtcpokkkdmenmgaaDoor
/- pfx: cut, Mask: an address with its last bits 0. Conditions: numbers of 64 bits. -/
namespace Go.Proofs.YtcpokkkdmenmgaaDoor
open Go.RowKit Go.ChangeShapes Go.WideShapes Go.ChangeAt Go.Deep
namespace Addr05
theorem high_eq (k : Nat) (hk : k ≤ 64) : 18446744073709551616 - 2 ^ k = (2 ^ (64 - k) - 1) * 2 ^ k := by
  rw [Nat.sub_mul, Nat.one_mul, ← Nat.pow_add, show 64 - k + k = 64 by omega]
theorem and_high (a k : Nat) (ha : a < 18446744073709551616) (hk : k ≤ 64) : a &&& (18446744073709551616 - 2 ^ k) = mkB a k := by
  apply Nat.eq_of_testBit_eq
  intro j
  rw [Nat.testBit_and, testBit_mkB, high_eq k hk, ← Nat.shiftLeft_eq, Nat.testBit_shiftLeft, Nat.testBit_two_pow_sub_one]
  by_cases hkj : k ≤ j
  · by_cases hj : j < 64
    · simp [hkj, show j - k < 64 - k by omega]
    · rw [Nat.testBit_lt_two_pow (Nat.lt_of_lt_of_le ha (show 2 ^ 64 ≤ 2 ^ j from Nat.pow_le_pow_right (by omega) (by omega)))]
      simp
  · simp [hkj]
theorem u64_high (a k : Nat) (ha : a < 18446744073709551616) (hk : k ≤ 64) : bits .and .u64 (a : Int) ((18446744073709551616 - 2 ^ k : Nat) : Int) = ((mkB a k : Nat) : Int) := by
  have hp : 0 < 2 ^ k := Nat.two_pow_pos k
  rw [(bits_nat .u64 64 (by decide) wrapsu64 a (18446744073709551616 - 2 ^ k) ha (by omega)).1, and_high a k ha hk]
set_option maxRecDepth 20000 in
theorem pcut_any (b : Nat) (hb : b ≤ 64) (w : World) :
    Calls Tryd.prog 73 #[.int .i64 (b : Int)] w fun e w' => e = .returned (.int .u64 ((18446744073709551616 - 2 ^ (64 - b) : Nat) : Int)) ∧ w' = w := by
  by_cases h0 : b = 0
  · subst h0
    go_enter Tryd.func73, Tryd.ntmps73
    go_wp2_with fail
    go_ret
    exact ⟨rfl, rfl⟩
  · have t0 : ((b : Int) == 0) = false := by rw [beq_eq_false_iff_ne]; omega
    obtain ⟨s, hs⟩ : ∃ s, 64 - b = s := ⟨_, rfl⟩
    have ws : IntKind.i64.wrap (64 - (b : Int)) = (s : Int) := by rw [wraps62 _ (by omega) (by omega)]; omega
    have i1 : (0 : Int) ≤ (s : Int) := by omega
    have min64 : min s 64 = s := by omega
    have hw : IntKind.u64.wrap (18446744073709551615 * 2 ^ s) = ((18446744073709551616 - 2 ^ s : Nat) : Int) := by
      have h1 : 0 < 2 ^ s := Nat.two_pow_pos s
      have h2 : 2 ^ s ≤ 2 ^ 64 := Nat.pow_le_pow_right (by omega) (by omega)
      have e : ((2 : Int) ^ s) = ((2 ^ s : Nat) : Int) := by push_cast; rfl
      rw [IntKind.wrap_u64, e]
      obtain ⟨P, hP⟩ : ∃ P, 2 ^ s = P := ⟨_, rfl⟩
      rw [hP] at h1 h2 ⊢
      omega
    rw [hs, ← hw]
    replace hs := hide hs
    replace h0 := hide h0
    replace hw := hide hw
    go_enter Tryd.func73, Tryd.ntmps73
    go_wp2_with fail
    go_ret
    exact ⟨rfl, rfl⟩
def clampN (a : Adr) (i : Int) : Nat := (min (max i 0) (a.w : Int)).toNat
theorem pcut_bel (b : Nat) (hb : b ≤ 64) (w : World) :
    Calls Tryd.prog 73 #[.int .i64 (b : Int)] w fun e w' => e = .returned (.int .u64 ((18446744073709551616 - 2 ^ (64 - b) : Nat) : Int)) ∧ Below w.heap.size w w' :=
  (pcut_any b hb w).mono fun _ _ h => ⟨h.1, h.2 ▸ Below.refl _ _⟩
set_option maxRecDepth 20000 in
set_option maxHeartbeats 8000000 in
theorem Mask_any (a : Adr) (ho : a.ok) (i : Int) (w : World) :
    Calls Tryd.prog 48 #[.agg #[.bool a.v6, .int .u64 (a.hi : Int), .int .u64 (a.lo : Int)], .int .i64 i] w fun e w' => e = .returned (.agg (a.mask (clampN a i)).arr) ∧ Below w.heap.size w w' := by
  obtain ⟨v, hi, lo⟩ := a
  obtain ⟨hhi, hlo⟩ := ho
  dsimp only at hhi hlo ⊢
  obtain ⟨w1, hw1⟩ : ∃ w1, w.alloc (.cells #[.bool v, .int .u64 (hi : Int), .int .u64 (lo : Int)] 27) = w1 := ⟨_, rfl⟩
  have hg1 : w1.heap[w.heap.size]? = some (.cells #[.bool v, .int .u64 (hi : Int), .int .u64 (lo : Int)] 27 (0, 0)) := hw1 ▸ blk_new _ _ _
  have hz1 : w1.heap.size = w.heap.size + 1 := by rw [← hw1]; simp
  have hB1 : Below w.heap.size w w1 := hw1 ▸ (Below.refl _ _).alloc (Nat.le_refl _) _
  obtain ⟨w2, hw2⟩ : ∃ w2, w1.alloc (.cells #[.bool false, .int .u64 0, .int .u64 0] 27) = w2 := ⟨_, rfl⟩
  have hg2 : w2.heap[w1.heap.size]? = some (.cells #[.bool false, .int .u64 0, .int .u64 0] 27 (0, 0)) := hw2 ▸ blk_new _ _ _
  have hB2' : Below w1.heap.size w1 w2 := hw2 ▸ (Below.refl _ _).alloc (Nat.le_refl _) _
  have hz2 : w1.heap.size < w2.heap.size := by rw [← hw2]; simp
  rw [hz1] at hg2
  have hg1 := blk_below hB2' (by omega) hg1
  have hB2 := hB1.trans (hB2'.mono hB1.size)
  clear hB1 hB2'
  have hz : w.heap.size + 1 < w2.heap.size := by omega
  obtain ⟨m, hm⟩ : ∃ m : Nat, max i 0 = (m : Int) := ⟨(max i 0).toNat, by omega⟩
  have hcl : clampN ⟨v, hi, lo⟩ i = min m (Adr.w ⟨v, hi, lo⟩) := by unfold clampN; rw [hm]; omega
  rw [hcl]
  clear hcl
  cases v
  · obtain ⟨B, hBm⟩ : ∃ B, min m 32 = B := ⟨_, rfl⟩
    have hBi : min (m : Int) 32 = (B : Int) := by omega
    have hres : (Adr.mask ⟨false, hi, lo⟩ (min m (Adr.w ⟨false, hi, lo⟩))) = ⟨false, hi, mkB lo (32 - B)⟩ := by
      show Adr.mask ⟨false, hi, lo⟩ (min m 32) = _
      rw [hBm]; rfl
    rw [hres]
    unfold Adr.arr
    dsimp only
    obtain ⟨c, hc⟩ : ∃ c, B + 32 = c := ⟨_, rfl⟩
    have wc' : IntKind.i64.wrap ((B : Int) + 32) = (c : Int) := by rw [wraps62 _ (by omega) (by omega)]; omega
    have hbits := fun w => Bits_any false (hi : Int) (lo : Int) w
    have q1 := fun l => pcut_bel c (by omega) l
    have hand := u64_high lo (64 - c) hlo (by omega)
    rw [show 64 - c = 32 - B by omega] at hand
    have e1 : ∀ w : World, Calls Tryd.prog 73 #[.int .i64 (c : Int)] w fun e w' => e = .returned (.int .u64 ((18446744073709551616 - 2 ^ (32 - B) : Nat) : Int)) ∧ Below w.heap.size w w' := by
      intro w
      have := q1 w
      rwa [show 64 - c = 32 - B by omega] at this
    obtain ⟨H, hH⟩ : ∃ H, 18446744073709551616 - 2 ^ (32 - B) = H := ⟨_, rfl⟩
    obtain ⟨R, hR⟩ : ∃ R, mkB lo (32 - B) = R := ⟨_, rfl⟩
    rw [hH] at hand e1
    rw [hR] at hand ⊢
    have hcg := blk_cell hg1
    clear q1 hres
    replace hg1 := hide hg1
    replace hg2 := hide hg2
    replace hB2 := hide hB2
    replace hbits := hide hbits
    replace e1 := hide e1
    replace hH := hide hH
    replace hR := hide hR
    replace hBm := hide hBm
    replace hc := hide hc
    go_enter Tryd.func48, Tryd.ntmps48
    go_wp2_with fail
    clear hw1 hw2
    refine (hbits.out w2).mono ?_
    rintro e w3 ⟨rfl, hb3⟩
    have hg13 := blk_below hb3 (by omega) hg1.out
    have hg23 := blk_below hb3 hz hg2.out
    have hB3 := hB2.out.trans (hb3.mono hB2.out.size)
    have hz3 := hb3.size
    clear hb3 hcg hg1 hg2 hB2 hbits
    have hcg := blk_cell hg13
    replace hg13 := hide hg13
    replace hg23 := hide hg23
    replace hB3 := hide hB3
    simp only [Bool.false_eq_true, if_false]
    go_upto_region 4 with fail
    have hcl := fun l : Later w3 => blk_cell (blk_below l.hb (by omega) hg13.out)
    have q := fun l : Later w3 => e1.out l.w
    clear hcg
    refine wp_region_L (by as_aux_lemma => kernel_rfl) ?_
    refine wpE_seg 0 3 (fuel := 4) (by as_aux_lemma => kernel_rfl) (fun d _ _ _ _ h => by cases d <;> exact h) (by as_aux_lemma => kernel_rfl) (by as_aux_lemma => kernel_rfl) ?_
    simp only [List.drop_zero, List.take_succ_cons, List.take_zero]
    iterate 3 (refine wpQE_step (fun K hK => ?_); go_simp; refine hK _ ?_; clear hK K)
    refine wpQE_nil ?_
    refine wpE_seg 3 2 (fuel := 2) (by as_aux_lemma => kernel_rfl) (fun d _ _ _ _ h => by cases d <;> exact h) (by as_aux_lemma => kernel_rfl) (by as_aux_lemma => kernel_rfl) ?_
    simp only [List.drop_succ_cons, List.drop_zero, List.take_succ_cons, List.take_zero]
    (refine wpQE_step (fun K hK => ?_); go_simp; apply Exists.intro; refine ⟨fun l => ?_, hK _ ?_⟩; (go_at_call 73; refine (q l).mono ?_; rintro e w' ⟨rfl, hb⟩; exact ⟨rfl, hb⟩); clear hK K)
    iterate 1 (refine wpQE_step (fun K hK => ?_); go_simp; refine hK _ ?_; clear hK K)
    refine wpQE_nil ?_
    clear hcl q
    refine wpE_end (by as_aux_lemma => kernel_rfl) (fun l2 => ?_)
    have hg14 := blk_below l2.hb (by omega) hg13.out
    have hg24 := blk_below l2.hb (by omega) hg23.out
    have hB4 := hB3.out.trans (l2.hb.mono hB3.out.size)
    have hz4 := l2.hb.size
    obtain ⟨w9, e9, hg9, g9⟩ := store_cell hg14 2 (.int .u64 (R : Int))
    have hg9 : w9.heap[w.heap.size]? = some (.cells #[.bool false, .int .u64 (hi : Int), .int .u64 (R : Int)] 27 (0, 0)) := hg9
    have c9 := blk_cell hg14 2
    have f9 := blk_free hg14 2
    replace hg9 := hide hg9
    replace g9 := hide g9
    replace hg24 := hide hg24
    replace hB4 := hide hB4
    replace hg14 := hide hg14
    refine wpT_step 5 rfl (by as_aux_lemma => kernel_rfl) (fun K hK => ?_)
    go_simp
    refine hK _ _ ?_
    clear hK K
    refine wpT_step 6 rfl (by as_aux_lemma => kernel_rfl) (fun K hK => ?_)
    go_simp
    refine hK _ _ ?_
    clear hK K
    refine wpT_done (by as_aux_lemma => kernel_rfl) ?_ 0
    have hr9 := grown_other g9.out (by omega) (by omega) hg24.out
    have hB9 : Below w.heap.size w w9 := hB4.out.trans (below_grown g9.out (by omega) (Nat.le_refl _))
    have hz9 := g9.out.size
    clear e9 c9 f9 g9 hg24 hB4 hg13 hg23 hB3 hg14
    replace hr9 := hide hr9
    replace hB9 := hide hB9
    go_upto_region 5 with fail
    apply wp_region_lit
    refine wpl_ld rfl 27 (.tmp 2) rfl w.heap.size rfl _ _ hg9.out Tryd.underlying27 rfl (by kernel_rfl) ?_
    refine wpl_st rfl 27 (.tmp 4) (.tmp 21) rfl (w.heap.size + 1) 0 rfl (#[.bool false, .int .u64 (hi : Int), .int .u64 (R : Int)]) rfl hr9.out (by simp) (by kernel_rfl) (adr_one _ _ _) fun w9 hg9 g9 => ?_
    rw [putA_whole _ _ (by rfl)] at hg9
    have hb9 : Below (w.heap.size) w w9 := (hB9.out).trans (below_grown g9 (by have := (hB9.out).size; omega) (by omega))
    have hld : (loadVar 27 ⟨w.heap.size + 1, 0, none⟩).run Tryd.prog w9 = .ok (.agg (#[.bool false, .int .u64 (hi : Int), .int .u64 (R : Int)])) w9 := by
      simpa using run_loadVar_mid w9 (w.heap.size + 1) 0 27 (#[.bool false, .int .u64 (hi : Int), .int .u64 (R : Int)]).toList _ (blk_range hg9) Tryd.underlying27 rfl (by kernel_rfl)
    clear hg9 g9
    replace hld := hide hld
    replace hb9 := hide hb9
    refine wpList_nil ?_
    go_simp
    go_wp2_with fail
    exact bodyPost_ret (v := .agg #[.bool false, .int .u64 (hi : Int), .int .u64 (R : Int)]) (by simp [results, Tryd.results48, asAddr, hld.out]) rfl ⟨rfl, hb9.out⟩
  · obtain ⟨B, hBm⟩ : ∃ B, min m 128 = B := ⟨_, rfl⟩
    have hBi : min (m : Int) 128 = (B : Int) := by omega
    have hres : (Adr.mask ⟨true, hi, lo⟩ (min m (Adr.w ⟨true, hi, lo⟩))) = ⟨true, mkB hi (64 - min B 64), mkB lo (64 - (B - 64))⟩ := by
      show Adr.mask ⟨true, hi, lo⟩ (min m 128) = _
      rw [hBm]; rfl
    rw [hres]
    unfold Adr.arr
    dsimp only
    obtain ⟨c1, hc1⟩ : ∃ c, min B 64 = c := ⟨_, rfl⟩
    obtain ⟨c2, hc2⟩ : ∃ c, B - 64 = c := ⟨_, rfl⟩
    have wm1 : min (B : Int) 64 = (c1 : Int) := by omega
    have ws2 : IntKind.i64.wrap ((B : Int) - 64) = (B : Int) - 64 := by rw [IntKind.wrap_i64]; omega
    have wm2 : max ((B : Int) - 64) 0 = (c2 : Int) := by omega
    rw [hc1, hc2]
    have hbits := fun w => Bits_any true (hi : Int) (lo : Int) w
    have q1 := fun w => pcut_bel c1 (by omega) w
    have q2 := fun w => pcut_bel c2 (by omega) w
    have hand1 := u64_high hi (64 - c1) hhi (by omega)
    have hand2 := u64_high lo (64 - c2) hlo (by omega)
    obtain ⟨H1, hH1⟩ : ∃ H, 18446744073709551616 - 2 ^ (64 - c1) = H := ⟨_, rfl⟩
    obtain ⟨H2, hH2⟩ : ∃ H, 18446744073709551616 - 2 ^ (64 - c2) = H := ⟨_, rfl⟩
    obtain ⟨R1, hR1⟩ : ∃ R, mkB hi (64 - c1) = R := ⟨_, rfl⟩
    obtain ⟨R2, hR2⟩ : ∃ R, mkB lo (64 - c2) = R := ⟨_, rfl⟩
    rw [hH1] at hand1 q1
    rw [hH2] at hand2 q2
    rw [hR1] at hand1 ⊢
    rw [hR2] at hand2 ⊢
    have hcg := blk_cell hg1
    clear hres
    replace hg1 := hide hg1
    replace hg2 := hide hg2
    replace hB2 := hide hB2
    replace hbits := hide hbits
    replace q1 := hide q1
    replace q2 := hide q2
    replace hH1 := hide hH1
    replace hH2 := hide hH2
    replace hR1 := hide hR1
    replace hR2 := hide hR2
    replace hBm := hide hBm
    replace hc1 := hide hc1
    replace hc2 := hide hc2
    go_enter Tryd.func48, Tryd.ntmps48
    go_wp2_with fail
    clear hw1 hw2
    refine (hbits.out w2).mono ?_
    rintro e w3 ⟨rfl, hb3⟩
    have hg13 := blk_below hb3 (by omega) hg1.out
    have hg23 := blk_below hb3 hz hg2.out
    have hB3 := hB2.out.trans (hb3.mono hB2.out.size)
    have hz3 := hb3.size
    clear hb3 hcg hg1 hg2 hB2 hbits
    have hcg := blk_cell hg13
    replace hg13 := hide hg13
    replace hg23 := hide hg23
    replace hB3 := hide hB3
    simp only [if_true]
    go_upto_region 6 with fail
    have hcl := fun l : Later w3 => blk_cell (blk_below l.hb (by omega) hg13.out)
    have q := fun l : Later w3 => q1.out l.w
    clear hcg
    refine wp_region_L (by as_aux_lemma => kernel_rfl) ?_
    refine wpE_seg 0 4 (fuel := 4) (by as_aux_lemma => kernel_rfl) (fun d _ _ _ _ h => by cases d <;> exact h) (by as_aux_lemma => kernel_rfl) (by as_aux_lemma => kernel_rfl) ?_
    simp only [List.drop_zero, List.take_succ_cons, List.take_zero]
    iterate 4 (refine wpQE_step (fun K hK => ?_); go_simp; refine hK _ ?_; clear hK K)
    refine wpQE_nil ?_
    refine wpE_seg 4 2 (fuel := 2) (by as_aux_lemma => kernel_rfl) (fun d _ _ _ _ h => by cases d <;> exact h) (by as_aux_lemma => kernel_rfl) (by as_aux_lemma => kernel_rfl) ?_
    simp only [List.drop_succ_cons, List.drop_zero, List.take_succ_cons, List.take_zero]
    (refine wpQE_step (fun K hK => ?_); go_simp; apply Exists.intro; refine ⟨fun l => ?_, hK _ ?_⟩; (go_at_call 73; refine (q l).mono ?_; rintro e w' ⟨rfl, hb⟩; exact ⟨rfl, hb⟩); clear hK K)
    iterate 1 (refine wpQE_step (fun K hK => ?_); go_simp; refine hK _ ?_; clear hK K)
    refine wpQE_nil ?_
    clear hcl q
    refine wpE_end (by as_aux_lemma => kernel_rfl) (fun l2 => ?_)
    have hg14 := blk_below l2.hb (by omega) hg13.out
    have hg24 := blk_below l2.hb (by omega) hg23.out
    have hB4 := hB3.out.trans (l2.hb.mono hB3.out.size)
    have hz4 := l2.hb.size
    obtain ⟨w9, e9, hg9, g9⟩ := store_cell hg14 1 (.int .u64 (R1 : Int))
    have hg9 : w9.heap[w.heap.size]? = some (.cells #[.bool true, .int .u64 (R1 : Int), .int .u64 (lo : Int)] 27 (0, 0)) := hg9
    have c9 := blk_cell hg14 1
    have f9 := blk_free hg14 1
    replace hg9 := hide hg9
    replace g9 := hide g9
    replace hg24 := hide hg24
    replace hB4 := hide hB4
    replace hg14 := hide hg14
    refine wpT_step 6 rfl (by as_aux_lemma => kernel_rfl) (fun K hK => ?_)
    go_simp
    refine hK _ _ ?_
    clear hK K
    refine wpT_step 7 rfl (by as_aux_lemma => kernel_rfl) (fun K hK => ?_)
    go_simp
    refine hK _ _ ?_
    clear hK K
    refine wpT_done (by as_aux_lemma => kernel_rfl) ?_ 0
    have hr9 := grown_other g9.out (by omega) (by omega) hg24.out
    have hB9 : Below w.heap.size w w9 := hB4.out.trans (below_grown g9.out (by omega) (Nat.le_refl _))
    have hz9 := g9.out.size
    clear e9 c9 f9 g9 hg24 hB4 hg13 hg23 hB3 hg14
    replace hr9 := hide hr9
    replace hB9 := hide hB9
    go_upto_region 7 with fail
    have hcl := fun l : Later w9 => blk_cell (blk_below l.hb (by omega) hg9.out)
    have q := fun l : Later w9 => q2.out l.w
    refine wp_region_L (by as_aux_lemma => kernel_rfl) ?_
    refine wpE_seg 0 5 (fuel := 4) (by as_aux_lemma => kernel_rfl) (fun d _ _ _ _ h => by cases d <;> exact h) (by as_aux_lemma => kernel_rfl) (by as_aux_lemma => kernel_rfl) ?_
    simp only [List.drop_zero, List.take_succ_cons, List.take_zero]
    iterate 5 (refine wpQE_step (fun K hK => ?_); go_simp; refine hK _ ?_; clear hK K)
    refine wpQE_nil ?_
    refine wpE_seg 5 2 (fuel := 2) (by as_aux_lemma => kernel_rfl) (fun d _ _ _ _ h => by cases d <;> exact h) (by as_aux_lemma => kernel_rfl) (by as_aux_lemma => kernel_rfl) ?_
    simp only [List.drop_succ_cons, List.drop_zero, List.take_succ_cons, List.take_zero]
    (refine wpQE_step (fun K hK => ?_); go_simp; apply Exists.intro; refine ⟨fun l => ?_, hK _ ?_⟩; (go_at_call 73; refine (q l).mono ?_; rintro e w' ⟨rfl, hb⟩; exact ⟨rfl, hb⟩); clear hK K)
    iterate 1 (refine wpQE_step (fun K hK => ?_); go_simp; refine hK _ ?_; clear hK K)
    refine wpQE_nil ?_
    clear hcl q
    refine wpE_end (by as_aux_lemma => kernel_rfl) (fun l3 => ?_)
    have hg15 := blk_below l3.hb (by omega) hg9.out
    have hg25 := blk_below l3.hb (by omega) hr9.out
    have hB5 := hB9.out.trans (l3.hb.mono hB9.out.size)
    have hz5 := l3.hb.size
    obtain ⟨w10, e10, hg10, g10⟩ := store_cell hg15 2 (.int .u64 (R2 : Int))
    have hg10 : w10.heap[w.heap.size]? = some (.cells #[.bool true, .int .u64 (R1 : Int), .int .u64 (R2 : Int)] 27 (0, 0)) := hg10
    have c10 := blk_cell hg15 2
    have f10 := blk_free hg15 2
    replace hg10 := hide hg10
    replace g10 := hide g10
    replace hg25 := hide hg25
    replace hB5 := hide hB5
    replace hg15 := hide hg15
    refine wpT_step 7 rfl (by as_aux_lemma => kernel_rfl) (fun K hK => ?_)
    go_simp
    refine hK _ _ ?_
    clear hK K
    refine wpT_step 8 rfl (by as_aux_lemma => kernel_rfl) (fun K hK => ?_)
    go_simp
    refine hK _ _ ?_
    clear hK K
    refine wpT_done (by as_aux_lemma => kernel_rfl) ?_ 0
    have hr10 := grown_other g10.out (by omega) (by omega) hg25.out
    have hB10 : Below w.heap.size w w10 := hB5.out.trans (below_grown g10.out (by omega) (Nat.le_refl _))
    clear e10 c10 f10 g10 hg25 hB5 hr9 hB9 hg9 hg15
    replace hr10 := hide hr10
    replace hB10 := hide hB10
    go_upto_region 8 with fail
    apply wp_region_lit
    refine wpl_ld rfl 27 (.tmp 2) rfl w.heap.size rfl _ _ hg10.out Tryd.underlying27 rfl (by kernel_rfl) ?_
    refine wpl_st rfl 27 (.tmp 4) (.tmp 37) rfl (w.heap.size + 1) 0 rfl (#[.bool true, .int .u64 (R1 : Int), .int .u64 (R2 : Int)]) rfl hr10.out (by simp) (by kernel_rfl) (adr_one _ _ _) fun w9 hg9 g9 => ?_
    rw [putA_whole _ _ (by rfl)] at hg9
    have hb9 : Below (w.heap.size) w w9 := (hB10.out).trans (below_grown g9 (by have := (hB10.out).size; omega) (by omega))
    have hld : (loadVar 27 ⟨w.heap.size + 1, 0, none⟩).run Tryd.prog w9 = .ok (.agg (#[.bool true, .int .u64 (R1 : Int), .int .u64 (R2 : Int)])) w9 := by
      simpa using run_loadVar_mid w9 (w.heap.size + 1) 0 27 (#[.bool true, .int .u64 (R1 : Int), .int .u64 (R2 : Int)]).toList _ (blk_range hg9) Tryd.underlying27 rfl (by kernel_rfl)
    clear hg9 g9
    replace hld := hide hld
    replace hb9 := hide hb9
    refine wpList_nil ?_
    go_simp
    go_wp2_with fail
    exact bodyPost_ret (v := .agg #[.bool true, .int .u64 (R1 : Int), .int .u64 (R2 : Int)]) (by simp [results, Tryd.results48, asAddr, hld.out]) rfl ⟨rfl, hb9.out⟩
end Addr05
end Go.Proofs.YtcpokkkdmenmgaaDoor
