/- law05's longest row of zeros and its text are the code's. Plain lists. -/
import Derived.Test.YtcpokkkdmenmgaaDoorQConfRemarks5
namespace Go.Proofs.YtcpokkkdmenmgaaDoor
open Go.RowKit Go.ChangeShapes Go.WideShapes Go.ChangeAt Go.Deep
namespace Addr05
/-- The law's way to the longest row of zeros. -/
def lgapF (g : List Nat) : Nat → Nat → Int × Nat → Int × Nat
  | 0, _, r => r
  | f + 1, i, r => if i < 8 then lgapF g f (i + 1) (if r.2 < zeroRun (g.drop i) then ((i : Int), zeroRun (g.drop i)) else r) else r
def pat (g : List Nat) : List Nat := g.map fun n => if n = 0 then 0 else 1
theorem zeroRun_pat : ∀ g : List Nat, zeroRun (pat g) = zeroRun g
  | [] => rfl
  | n :: r => by
    show zeroRun ((if n = 0 then 0 else 1) :: pat r) = _
    by_cases h : n = 0
    · rw [if_pos h, zeroRun, zeroRun, if_pos rfl, if_pos h, zeroRun_pat r]
    · rw [if_neg h, zeroRun, zeroRun, if_neg (by omega), if_neg h]
theorem pat_drop (g : List Nat) (i : Nat) : (pat g).drop i = pat (g.drop i) := List.map_drop.symm
theorem gapF_pat (g : List Nat) : ∀ f i r, gapF (pat g) f i r = gapF g f i r
  | 0, _, _ => rfl
  | f + 1, i, r => by
    rw [gapF, gapF, pat_drop, zeroRun_pat]
    split
    · exact gapF_pat g f _ _
    · rfl
theorem lgapF_pat (g : List Nat) : ∀ f i r, lgapF (pat g) f i r = lgapF g f i r
  | 0, _, _ => rfl
  | f + 1, i, r => by
    rw [lgapF, lgapF, pat_drop, zeroRun_pat]
    split
    · exact lgapF_pat g f _ _
    · rfl
def bN (b : Bool) : Nat := if b then 0 else 1
theorem gap_dec : ∀ b0 b1 b2 b3 b4 b5 b6 b7 : Bool, lgapF [bN b0, bN b1, bN b2, bN b3, bN b4, bN b5, bN b6, bN b7] 9 0 (-1, 1) = gapF [bN b0, bN b1, bN b2, bN b3, bN b4, bN b5, bN b6, bN b7] 9 0 (-1, 1) := by decide +kernel
theorem bN_of (n : Nat) : (if n = 0 then 0 else 1) = bN (n == 0) := by
  unfold bN
  by_cases h : n = 0
  · rw [if_pos h, if_pos (beq_iff_eq.2 h)]
  · rw [if_neg h, if_neg (by simpa using h)]
theorem lgap_eq (g : List Nat) (hg : g.length = 8) : lgapF g 9 0 (-1, 1) = gapL g := by
  unfold gapL
  rw [← lgapF_pat, ← gapF_pat]
  match g, hg with
  | [a0, a1, a2, a3, a4, a5, a6, a7], _ =>
    simp only [pat, List.map_cons, List.map_nil, bN_of]
    exact gap_dec _ _ _ _ _ _ _ _
/-- Is a colon to stand ahead of word i? -/
def sepB (best : Int) (long i : Nat) : Bool := decide (0 < i) && !decide ((i : Int) = best + long) || decide (best < 0) && decide (0 < i)
/-- The law's way to the text. -/
def buildF (D : List (List UInt8)) (best : Int) (long : Nat) : Nat → Nat → List UInt8 → List UInt8
  | 0, _, s => s
  | f + 1, i, s => if i < 8 then (if (i : Int) = best then buildF D best long f (i + long) (s ++ [58, 58]) else buildF D best long f (i + 1) ((if sepB best long i = true then s ++ [58] else s) ++ (D[i]?).getD [])) else s
set_option maxHeartbeats 4000000 in
theorem build_eq (D : List (List UInt8)) (hD : D.length = 8) (best : Int) (long : Nat) (h : best = -1 ∨ ∃ a : Nat, best = (a : Int) ∧ 2 ≤ long ∧ a + long ≤ 8) : buildF D best long 9 0 [] = if best < 0 then Lib.join D [58] else Lib.join (D.take best.toNat) [58] ++ [58, 58] ++ Lib.join (D.drop (best.toNat + long)) [58] := by
  match D, hD with
  | [d0, d1, d2, d3, d4, d5, d6, d7], _ =>
    rcases h with rfl | ⟨a, rfl, h2, h3⟩
    · simp [buildF, sepB, Lib.join, List.intercalate]
    · have ha : a = 0 ∨ a = 1 ∨ a = 2 ∨ a = 3 ∨ a = 4 ∨ a = 5 ∨ a = 6 := by omega
      rcases ha with rfl | rfl | rfl | rfl | rfl | rfl | rfl
      all_goals
        have hl : long = 2 ∨ long = 3 ∨ long = 4 ∨ long = 5 ∨ long = 6 ∨ long = 7 ∨ long = 8 := by omega
        rcases hl with rfl | rfl | rfl | rfl | rfl | rfl | rfl
        all_goals first
          | omega
          | simp [buildF, sepB, Lib.join, List.intercalate]
end Addr05
end Go.Proofs.YtcpokkkdmenmgaaDoor
/- law05: an address of version 6 as a text. Conditions: numbers of 64 bits. -/
namespace Go.Proofs.YtcpokkkdmenmgaaDoor
open Go.RowKit Go.ChangeShapes Go.WideShapes Go.ChangeAt Go.Deep
namespace Addr05
theorem lgapF_ok (g : List Nat) (f i : Nat) (r : Int × Nat) (hf : 9 ≤ f + i) (h8 : ¬ i < 8) : lgapF g f i r = r := by
  cases f with
  | zero => rfl
  | succ f => rw [lgapF, if_neg h8]
end Addr05
end Go.Proofs.YtcpokkkdmenmgaaDoor
/- addr: a number of a base, as short as may be. Condition: base 10 or 16. -/
namespace Go.Proofs.YtcpokkkdmenmgaaDoor
open Go.RowKit Go.ChangeShapes Go.WideShapes Go.ChangeAt Go.Deep
namespace Addr05
def hexD : List UInt8 := [48, 49, 50, 51, 52, 53, 54, 55, 56, 57, 97, 98, 99, 100, 101, 102]
def hexV (c : UInt8) : Int := Lib.indexByte hexD c
def foldN (b : Nat) : Nat → List UInt8 → Option Nat
  | n, [] => some n
  | n, c :: r => if 0 ≤ hexV c ∧ hexV c < (b : Int) then foldN b (n * b + (hexV c).toNat) r else none
/-- The number that a text is, if it may be. -/
def numF (b most : Nat) (s : List UInt8) : Nat × Bool :=
  if s = [] ∨ 5 < s.length ∨ (s.head? = some 48 ∧ 1 < s.length) then (0, false) else match foldN b 0 s with | none => (0, false) | some n => (n, decide (n ≤ most))
theorem hexV_lt (c : UInt8) : hexV c < 16 := by
  have h : ∀ n : Fin 256, hexV (UInt8.ofNat n.val) < 16 := by decide +kernel
  have h1 := h ⟨c.toNat, c.toNat_lt⟩
  rwa [show UInt8.ofNat (c.toNat) = c from UInt8.ofNat_toNat] at h1
theorem hexV_ge (c : UInt8) : -1 ≤ hexV c := Lib.indexByte_ge _ _
theorem drop_cons {α : Type} {l : List α} {i : Nat} {e : α} (h : l[i]? = some e) : l.drop i = e :: l.drop (i + 1) := by
  obtain ⟨hl, rfl⟩ := List.getElem?_eq_some_iff.1 h
  exact List.drop_eq_getElem_cons hl
theorem str_toList (s : List UInt8) : (str s).toList = s := by
  exact ByteArray.toList_mk s
theorem str_get (s : List UInt8) (k : Nat) (c : UInt8) (h : s[k]? = some c) (hk : k < (str s).size) : (str s)[k]'hk = c := by
  obtain ⟨hl, rfl⟩ := List.getElem?_eq_some_iff.1 h
  rfl
theorem index_any (c : UInt8) (w : World) : Calls Tryd.prog 109 #[.string ⟨#[48, 49, 50, 51, 52, 53, 54, 55, 56, 57, 97, 98, 99, 100, 101, 102]⟩, .int .u8 (c.toNat : Int)] w fun e w' => e = .returned (.int .i64 (hexV c)) ∧ w' = w := by
  have h := Tryd.strings_IndexByte (str hexD) (c.toNat : Int) w
  rw [str_list, Int.toNat_natCast, show (c.toNat).toUInt8 = c from UInt8.ofNat_toNat] at h
  exact h
theorem foldN_lt (b : Nat) (hb : b = 10 ∨ b = 16) : ∀ (s : List UInt8) (n m : Nat), foldN b n s = some m → m < (n + 1) * b ^ s.length
  | [], n, m, h => by simp [foldN] at h; simp [← h]
  | c :: r, n, m, h => by
    rw [foldN] at h
    split at h
    · rename_i hc
      have h1 := foldN_lt b hb r _ _ h
      rw [List.length_cons, Nat.pow_succ]
      refine Nat.lt_of_lt_of_le h1 ?_
      rw [Nat.mul_comm (b ^ r.length) b, ← Nat.mul_assoc]
      refine Nat.mul_le_mul_right _ ?_
      have : (hexV c).toNat < b := by omega
      rw [Nat.add_mul]
      omega
    · cases h
set_option maxRecDepth 20000 in
set_option maxHeartbeats 8000000 in
theorem number_any (b most : Nat) (hb : b = 10 ∨ b = 16) (_hm : most ≤ 65535) (s : List UInt8) (hsl : s.length ≤ 9223372036854775807) (w : World) :
    Calls Tryd.prog 104 #[.string (str s), .int .u64 (b : Int), .int .u64 (most : Int)] w fun e w' => e = .returned (.tuple #[.int .u64 ((numF b most s).1 : Int), .bool (numF b most s).2]) ∧ w' = w := by
  have hz : (str s).size = s.length := size_str s
  have hte : (str s).toList.isEmpty = s.isEmpty := by rw [str_toList]
  by_cases h0 : s = []
  · have hN : numF b most s = (0, false) := by unfold numF; rw [if_pos (.inl h0)]
    rw [hN]
    have t0 : (str s).toList.isEmpty = true := by rw [hte, h0]; rfl
    replace hN := hide hN
    replace h0 := hide h0
    clear hte
    go_enter Tryd.func104, Tryd.ntmps104
    go_wp2_with fail
    go_ret2
    exact ⟨rfl, rfl⟩
  have t0 : (str s).toList.isEmpty = false := by rw [hte]; simpa using h0
  have hlp : 0 < s.length := List.length_pos_iff.2 h0
  clear hte
  by_cases h5 : 5 < s.length
  · have hN : numF b most s = (0, false) := by unfold numF; rw [if_pos (.inr (.inl h5))]
    rw [hN]
    have t1 : decide ((5 : Int) < (s.length : Int)) = true := by rw [decide_eq_true_eq]; omega
    replace hN := hide hN
    replace h0 := hide h0
    replace h5 := hide h5
    go_enter Tryd.func104, Tryd.ntmps104
    go_wp2_with fail
    go_ret2
    exact ⟨rfl, rfl⟩
  have t1 : decide ((5 : Int) < (s.length : Int)) = false := by rw [decide_eq_false_iff_not]; omega
  obtain ⟨c0, hc0⟩ : ∃ c, s[0]? = some c := ⟨_, List.getElem?_eq_getElem hlp⟩
  have hhd : s.head? = some c0 := by rw [List.head?_eq_getElem?]; exact hc0
  have e0 := str_get s 0 c0 hc0 (by omega)
  by_cases h48 : c0 = 48 ∧ 1 < s.length
  · have hN : numF b most s = (0, false) := by unfold numF; rw [if_pos (.inr (.inr ⟨by rw [hhd, h48.1], h48.2⟩))]
    rw [hN]
    have t2 : decide ((1 : Int) < (s.length : Int)) = true := by rw [decide_eq_true_eq]; omega
    have t3 : ((c0.toNat : Int) == 48) = true := by rw [h48.1]; rfl
    have j2 : 1 < s.length := h48.2
    replace hN := hide hN
    replace h0 := hide h0
    replace h5 := hide h5
    replace h48 := hide h48
    replace hc0 := hide hc0
    replace hhd := hide hhd
    go_enter Tryd.func104, Tryd.ntmps104
    go_wp2_with fail
    go_ret2
    exact ⟨rfl, rfl⟩
  have hN : numF b most s = match foldN b 0 s with | none => (0, false) | some n => (n, decide (n ≤ most)) := by
    unfold numF
    rw [if_neg]
    rintro (h | h | ⟨h, h'⟩)
    · exact h0 h
    · exact h5 h
    · rw [hhd] at h
      exact h48 ⟨Option.some.inj h, h'⟩
  obtain ⟨F, hF⟩ : ∃ F, foldN b 0 s = F := ⟨_, rfl⟩
  rw [hF] at hN
  obtain ⟨R, hR⟩ : ∃ R, numF b most s = R := ⟨_, rfl⟩
  rw [hR] at hN ⊢
  have hlim : ∀ m, F = some m → m < 1048576 := by
    intro m h
    have h1 := foldN_lt b hb s 0 m (by rw [hF, h])
    rw [Nat.zero_add, Nat.one_mul] at h1
    refine Nat.lt_of_lt_of_le h1 ?_
    refine Nat.le_trans (Nat.pow_le_pow_left (show b ≤ 16 by omega) s.length) ?_
    exact Nat.le_trans (Nat.pow_le_pow_right (by omega) (show s.length ≤ 5 by omega)) (by decide)
  have hi := index_any
  replace hN := hide hN
  replace hF := hide hF
  replace hR := hide hR
  replace h0 := hide h0
  replace hlim := hide hlim
  replace hi := hide hi
  replace hc0 := hide hc0
  replace hhd := hide hhd
  go_enter Tryd.func104, Tryd.ntmps104
  go_upto_region 1 with fail
  go_cut [27] (fun bv wx => bv = .bool false ∧ w = wx)
  case first =>
    by_cases h48' : c0 = 48
    · have t3 : ((c0.toNat : Int) == 48) = true := by rw [h48']; rfl
      have t2 : decide ((1 : Int) < (s.length : Int)) = false := by rw [decide_eq_false_iff_not]; intro h; exact h48 ⟨h48', by omega⟩
      replace h48 := hide h48
      replace h48' := hide h48'
      go_wp2_with fail
      go_meet
      exact ⟨rfl, rfl⟩
    · have t3 : ((c0.toNat : Int) == 48) = false := by
        rw [beq_eq_false_iff_ne]
        intro h
        apply h48'
        apply UInt8.toNat_inj.1
        have : c0.toNat = 48 := by omega
        rw [this]; rfl
      replace h48 := hide h48
      replace h48' := hide h48'
      go_wp2_with fail
      go_meet
      exact ⟨rfl, rfl⟩
  case rest =>
    obtain ⟨rfl, rfl⟩ := hcut
    clear e0 t0 t1
    replace h48 := hide h48
    replace h5 := hide h5
    go_wp2_with fail
    go_loopw [8, 30] (fun nv kv wr => ∃ (k n : Nat), k ≤ s.length ∧ nv = .int .u64 (n : Int) ∧ kv = .int .i64 (k : Int) ∧ foldN b n (s.drop k) = F ∧ n < 16 ^ k ∧ w = wr) (fun _ kv _ => s.length - (intOf kv).toNat)
    case atStart => exact ⟨0, 0, by omega, rfl, rfl, hF.out, by decide, rfl⟩
    case round =>
      obtain ⟨k, n, hk, rfl, rfl, hf, hn, rfl⟩ := hrel
      have h5' := h5.out
      by_cases hks : k < s.length
      · have i1 : (k : Int) < (s.length : Int) := by omega
        have i2 : (0 : Int) ≤ (k : Int) := by omega
        obtain ⟨c, hc⟩ : ∃ c, s[k]? = some c := ⟨_, List.getElem?_eq_getElem hks⟩
        have hks2 : k < (str s).size := by omega
        have ek := str_get s k c hc hks2
        have hd : s.drop k = c :: s.drop (k + 1) := drop_cons hc
        rw [hd, foldN] at hf
        have hge := hexV_ge c
        have hlt := hexV_lt c
        have hi2 := hi.out c w
        obtain ⟨h, hh⟩ : ∃ h, hexV c = h := ⟨_, rfl⟩
        rw [hh] at hf hge hlt hi2
        have hp : 16 ^ k ≤ 16 ^ 4 := Nat.pow_le_pow_right (by omega) (by omega)
        have hp1 : 16 ^ (k + 1) = 16 ^ k * 16 := Nat.pow_succ _ _
        obtain ⟨P, hP⟩ : ∃ P, 16 ^ k = P := ⟨_, rfl⟩
        rw [hP] at hp hp1 hn
        replace hf := hide hf
        replace hi2 := hide hi2
        replace hc := hide hc
        replace hd := hide hd
        replace hh := hide hh
        replace hP := hide hP
        replace hp1 := hide hp1
        replace h5' := hide h5'
        by_cases hv : 0 ≤ h
        · obtain ⟨v, rfl⟩ : ∃ v : Nat, h = (v : Int) := ⟨h.toNat, by omega⟩
          have t0 : decide ((v : Int) < 0) = false := by rw [decide_eq_false_iff_not]; omega
          have wv := wrapsu64 (v : Int) (by omega) (by omega)
          by_cases hvb : v < b
          · have t1 : decide ((b : Int) ≤ (v : Int)) = false := by rw [decide_eq_false_iff_not]; omega
            obtain ⟨nb, hnb⟩ : ∃ y, n * b = y := ⟨_, rfl⟩
            have hnb2 : nb + v < P * 16 ∧ nb < 1048576 := by
              rcases hb with rfl | rfl <;> omega
            have e1 : (n : Int) * (b : Int) = (nb : Int) := by rw [← hnb]; rfl
            have wm : IntKind.u64.wrap ((n : Int) * (b : Int)) = (nb : Int) := by rw [e1]; exact wrapsu64 _ (by omega) (by omega)
            have wm2 : IntKind.u64.wrap ((nb : Int) + (v : Int)) = ((nb + v : Nat) : Int) := wrapsu64 _ (by omega) (by omega)
            obtain ⟨n2, hn2⟩ : ∃ y, nb + v = y := ⟨_, rfl⟩
            rw [hn2] at wm2 hnb2
            have hf2 := hf.out
            rw [if_pos ⟨by omega, by omega⟩, Int.toNat_natCast, hnb, hn2] at hf2
            replace hf2 := hide hf2
            replace hn2 := hide hn2
            replace hnb := hide hnb
            go_wp2_with fail
            refine hi2.out.mono ?_
            rintro e w3 ⟨rfl, rfl⟩
            go_wp2_with fail
            refine ⟨⟨k + 1, n2, by omega, rfl, by first | rfl | go_num, hf2.out, by rw [hp1.out]; exact hnb2.1, by first | rfl | trivial⟩, by simp only [intOf]; omega⟩
          · have t1 : decide ((b : Int) ≤ (v : Int)) = true := by rw [decide_eq_true_eq]; omega
            have hR0 : R = (0, false) := by
              have hf2 := hf.out
              rw [if_neg (by omega)] at hf2
              rw [hN.out, ← hf2]
            subst hR0
            go_wp2_with fail
            refine hi2.out.mono ?_
            rintro e w3 ⟨rfl, rfl⟩
            go_wp2_with fail
            go_ret2
            exact ⟨rfl, by first | rfl | trivial⟩
        · have t0 : decide (h < 0) = true := by rw [decide_eq_true_eq]; omega
          have hR0 : R = (0, false) := by
            have hf2 := hf.out
            rw [if_neg (by omega)] at hf2
            rw [hN.out, ← hf2]
          subst hR0
          go_wp2_with fail
          refine hi2.out.mono ?_
          rintro e w3 ⟨rfl, rfl⟩
          go_wp2_with fail
          go_ret2
          exact ⟨rfl, by first | rfl | trivial⟩
      · have i1 : ((k : Int) < (s.length : Int)) = False := by rw [eq_iff_iff, iff_false]; omega
        have hdn : s.drop k = [] := List.drop_of_length_le (by omega)
        rw [hdn, foldN] at hf
        have hR0 : R = (n, decide (n ≤ most)) := by rw [hN.out, ← hf]
        subst hR0
        replace hdn := hide hdn
        replace hf := hide hf
        go_wp2_with fail
        go_ret2
        exact ⟨rfl, by first | rfl | trivial⟩
theorem numF_le (b most : Nat) (s : List UInt8) (h : (numF b most s).2 = true) : (numF b most s).1 ≤ most := by
  unfold numF at h ⊢
  split
  · exact Nat.zero_le _
  · rename_i hc
    rw [if_neg hc] at h
    split
    · exact Nat.zero_le _
    · rename_i n hn
      rw [hn] at h
      exact of_decide_eq_true h
end Addr05
end Go.Proofs.YtcpokkkdmenmgaaDoor
/- addr: an address of version 4 out of a text. Condition: the cell of bytealg.MaxLen. -/
namespace Go.Proofs.YtcpokkkdmenmgaaDoor
open Go.RowKit Go.ChangeShapes Go.WideShapes Go.ChangeAt Go.Deep
namespace Addr05
/-- A text's parts between separators. -/
def splitL (sep : UInt8) (s : List UInt8) : List (List UInt8) := (Lib.splitB (str [sep]) 0 (Lib.countB (str s) (str [sep])) (str s)).map (·.data.toList)
def MaxAt (w : World) : Prop := ∃ m, w.cell? ⟨0, 0, none⟩ = some (.int .i64 m)
theorem MaxAt.below {w w' : World} (h : MaxAt w) (hb : Below w.heap.size w w') : MaxAt w' := by
  obtain ⟨m, hm⟩ := h
  exact ⟨m, (hb.cell (World.block_lt_of_cell? w _ hm)).trans hm⟩
/-- The number that parts are, eight bits each. -/
def foldW : Nat → List (List UInt8) → Option Nat
  | n, [] => some n
  | n, x :: r => if (numF 10 255 x).2 = true then foldW (n * 256 % 18446744073709551616 + (numF 10 255 x).1) r else none
def fourF (s : List UInt8) : Nat × Bool := match foldW 0 (splitL 46 s) with | none => (0, false) | some n => (n, decide ((splitL 46 s).length = 4))
theorem split_any (sep : UInt8) (s : List UInt8) (hs : s.length ≤ 80) (w : World) (hm : MaxAt w) :
    Calls Tryd.prog 54 #[.string (str s), .string (str [sep])] w fun e w' => ∃ A c, e = .returned (.slice A (splitL sep s).length c) ∧ IsR strv w' w'.heap.size A (splitL sep s).length (splitL sep s) ∧ (splitL sep s).length ≤ c ∧ Below w.heap.size w w' := by
  obtain ⟨m, hm⟩ := hm
  refine (Tryd.strings_Split (str s) (str [sep]) m w (by rw [size_str]; omega) hm (by exact Nat.le_refl _)).mono ?_
  rintro e w' ⟨rfl, rfl⟩
  have hlen : (splitL sep s).length = Lib.countB (str s) (str [sep]) + 1 := by
    unfold splitL
    rw [List.length_map]
    exact Lib.splitB_all (str [sep]) (Nat.le_refl _) 0 _ (str s) rfl
  have hmap : (Lib.splitB (str [sep]) 0 (Lib.countB (str s) (str [sep])) (str s)).map Value.string = (splitL sep s).map strv := by
    unfold splitL
    rw [List.map_map]
    rfl
  rw [hmap, ← hlen]
  refine ⟨_, _, rfl, ?_, Nat.le_refl _, (Below.refl _ _).alloc (Nat.le_refl _) _⟩
  exact (IsV.lit w 9 ((splitL sep s).map strv) 0 (splitL sep s).length (by rw [List.length_map]; omega)).more (by simp)
theorem split_len (sep : UInt8) (s : List UInt8) : (splitL sep s).length ≤ s.length + 1 := by
  unfold splitL
  rw [List.length_map, Lib.splitB_all (str [sep]) (Nat.le_refl _) 0 _ (str s) rfl]
  have := Lib.countB_le (str [sep]) (Nat.le_refl _) (str s).size (str s) (Nat.le_refl _)
  rw [size_str] at this
  omega
theorem u64_or8 (n v : Nat) (hv : v < 256) (_hn : n < 18446744073709551616) : bits .or .u64 (((n * 256 % 18446744073709551616 : Nat)) : Int) (v : Int) = ((n * 256 % 18446744073709551616 + v : Nat) : Int) := by
  have e : (256 : Nat) ∣ 18446744073709551616 := ⟨72057594037927936, rfl⟩
  obtain ⟨q, hq⟩ : ∃ q, n * 256 % 18446744073709551616 = q * 256 := ⟨n % 72057594037927936, by omega⟩
  rw [hq]
  have hq2 : q * 256 < 18446744073709551616 := by rw [← hq]; exact Nat.mod_lt _ (by omega)
  exact bits_join .u64 64 (by decide) wrapsu64 8 _ _ (by omega) (by omega) (by omega) (by omega) (by omega) (by omega)
theorem splitB_size (sep : ByteArray) : ∀ (k : Nat) (s : ByteArray), ∀ x ∈ Lib.splitB sep 0 k s, x.size ≤ s.size
  | 0, s, x, h => by
    rw [Lib.splitB_zero] at h
    rw [List.mem_singleton.1 h]
    exact Nat.le_refl _
  | k + 1, s, x, h => by
    unfold Lib.splitB at h
    split at h
    · rw [List.mem_singleton.1 h]
      exact Nat.le_refl _
    · rcases List.mem_cons.1 h with h | h
      · rw [h, ByteArray.size_extract]
        omega
      · have h1 := splitB_size sep k _ x h
        rw [ByteArray.size_extract] at h1
        omega
theorem split_part (sep : UInt8) (s : List UInt8) : ∀ x ∈ splitL sep s, x.length ≤ s.length := by
  intro x h
  unfold splitL at h
  obtain ⟨y, hy, rfl⟩ := List.mem_map.1 h
  have h1 := splitB_size _ _ _ y hy
  rw [size_str] at h1
  rw [Array.length_toList]
  exact h1
end Addr05
end Go.Proofs.YtcpokkkdmenmgaaDoor
/- addr: four: an address of version 4 out of a text. Condition: the cell of bytealg.MaxLen, a text of at most 80 bytes. -/
namespace Go.Proofs.YtcpokkkdmenmgaaDoor
open Go.RowKit Go.ChangeShapes Go.WideShapes Go.ChangeAt Go.Deep
namespace Addr05
theorem adr_one (v6 : Bool) (hi lo : Int) : (#[.bool v6, .int .u64 hi, .int .u64 lo] : Array Value).all (·.oneCell') = true := all_oneCell_toArray (by
  intro v hv
  simp only [List.mem_cons, List.not_mem_nil, or_false] at hv
  rcases hv with rfl | rfl | rfl <;> rfl)
set_option maxRecDepth 20000 in
set_option maxHeartbeats 8000000 in
theorem four_any (s : List UInt8) (hs : s.length ≤ 80) (w : World) (hm : MaxAt w) :
    Calls Tryd.prog 92 #[.string (str s)] w fun e w' => e = .returned (.tuple #[.agg #[.bool false, .int .u64 0, .int .u64 ((fourF s).1 : Int)], .bool (fourF s).2]) ∧ Below w.heap.size w w' := by
  obtain ⟨R, hR⟩ : ∃ R, fourF s = R := ⟨_, rfl⟩
  rw [hR]
  obtain ⟨w1, hw1⟩ : ∃ w1, w.alloc (.cells #[.bool false, .int .u64 0, .int .u64 0] 27) = w1 := ⟨_, rfl⟩
  have hB : Below w.heap.size w w1 := hw1 ▸ (Below.refl _ _).alloc (Nat.le_refl _) _
  have hg : w1.heap[w.heap.size]? = some (.cells #[.bool false, .int .u64 0, .int .u64 0] 27 (0, 0)) := hw1 ▸ blk_new _ _ _
  have hzw : w.heap.size < w1.heap.size := by rw [← hw1]; simp
  have hsp := split_any 46 s hs w1 (hm.below hB)
  have hpl := split_part 46 s
  have hll := split_len 46 s
  have hRF : R = match foldW 0 (splitL 46 s) with | none => (0, false) | some n => (n, decide ((splitL 46 s).length = 4)) := hR.symm
  obtain ⟨ws, hws⟩ : ∃ ws, splitL 46 s = ws := ⟨_, rfl⟩
  rw [hws] at hsp hpl hll hRF
  obtain ⟨F, hF⟩ : ∃ F, foldW 0 ws = F := ⟨_, rfl⟩
  rw [hF] at hRF
  replace hB := hide hB
  replace hg := hide hg
  replace hsp := hide hsp
  replace hpl := hide hpl
  replace hRF := hide hRF
  replace hF := hide hF
  replace hR := hide hR
  replace hws := hide hws
  replace hm := hide hm
  go_enter Tryd.func92, Tryd.ntmps92
  go_wp2_with fail
  clear hw1
  refine hsp.out.mono ?_
  rintro e w2 ⟨A, c, rfl, hx, hc, hb2⟩
  have hg2 := blk_below hb2 hzw hg.out
  have hB2 := hB.out.trans (hb2.mono hB.out.size)
  have hz2 := hb2.size
  clear hb2 hsp
  replace hx := hide hx
  replace hg2 := hide hg2
  replace hB2 := hide hB2
  go_wp2_with fail
  go_loopw [5, 14] (fun nv kv wr => ∃ (k n : Nat), k ≤ ws.length ∧ nv = .int .u64 (n : Int) ∧ kv = .int .i64 (k : Int) ∧ foldW n (ws.drop k) = F ∧ n < 18446744073709551616 ∧ w2 = wr) (fun _ kv _ => ws.length - (intOf kv).toNat)
  case atStart => exact ⟨0, 0, by omega, rfl, rfl, hF.out, by decide, rfl⟩
  case round =>
    obtain ⟨k, n, hk, rfl, rfl, hf, hn, rfl⟩ := hrel
    by_cases hks : k < ws.length
    · have i1 : (k : Int) < (ws.length : Int) := by omega
      have i2 : (0 : Int) ≤ (k : Int) := by omega
      obtain ⟨b, off, x, rfl, hb, hxk, hcx⟩ := hx.out.at hks
      unfold strv at hcx
      have hxl := hpl.out x (List.mem_of_getElem? hxk)
      have hnum := number_any 10 255 (.inl rfl) (by omega) x (by omega) w2
      have hle := numF_le 10 255 x
      rw [drop_cons hxk, foldW] at hf
      obtain ⟨v, hv⟩ : ∃ v, (numF 10 255 x).1 = v := ⟨_, rfl⟩
      obtain ⟨o, ho⟩ : ∃ o, (numF 10 255 x).2 = o := ⟨_, rfl⟩
      rw [hv, ho] at hf hnum hle
      replace hf := hide hf
      replace hnum := hide hnum
      replace hxk := hide hxk
      replace hv := hide hv
      replace ho := hide ho
      cases o
      · have hR0 : R = (0, false) := by
          have hf2 := hf.out
          rw [if_neg (by simp)] at hf2
          rw [hRF.out, ← hf2]
        subst hR0
        go_wp2_with fail
        refine hnum.out.mono ?_
        rintro e w3 ⟨rfl, rfl⟩
        go_upto_region 8 with fail
        apply wp_region_lit
        iterate 1 (refine wpList_plain rfl fun K hK => ?_; go_simp; refine hK _ _ ?_; clear hK K)
        refine wpl_st rfl 27 (.tmp 2) (.tmp 25) rfl w.heap.size 0 rfl #[.bool false, .int .u64 0, .int .u64 0] rfl hg2.out (show 0 + 3 ≤ 3 by omega) (by kernel_rfl) (adr_one _ _ _) fun w4 hg4 g4 => ?_
        rw [putA_whole _ _ (by rfl)] at hg4
        have hb4 : Below w.heap.size w w4 := hB2.out.trans (below_grown g4 (by omega) (Nat.le_refl _))
        have hld : (loadVar 27 ⟨w.heap.size, 0, none⟩).run Tryd.prog w4 = .ok (.agg #[.bool false, .int .u64 0, .int .u64 0]) w4 := by
          simpa using run_loadVar_mid w4 w.heap.size 0 27 [.bool false, .int .u64 0, .int .u64 0] _ (blk_range hg4) Tryd.underlying27 rfl (by kernel_rfl)
        clear hg4 g4
        replace hld := hide hld
        replace hb4 := hide hb4
        iterate 1 (refine wpList_plain rfl fun K hK => ?_; go_simp; refine hK _ _ ?_; clear hK K)
        refine wpList_nil ?_
        go_simp
        go_wp2_with fail
        exact bodyPost_ret (v := .tuple #[.agg #[.bool false, .int .u64 0, .int .u64 0], .bool false]) (by simp [results, Tryd.results92, asAddr, hld.out, Result.andThen]) rfl ⟨by first | rfl | (congr 5; rw [Bool.eq_iff_iff]; simp; omega), hb4.out⟩
      · have hv255 := hle rfl
        clear hle
        have e1 := u64_or8 n v (by omega) hn
        have wp : IntKind.u64.wrap ((n : Int) * 256) = ((n * 256 % 18446744073709551616 : Nat) : Int) := by rw [IntKind.wrap_u64]; omega
        have hlim : n * 256 % 18446744073709551616 + v < 18446744073709551616 := by omega
        obtain ⟨n2, hn2⟩ : ∃ y, n * 256 % 18446744073709551616 + v = y := ⟨_, rfl⟩
        have hf2 := hf.out
        rw [if_pos rfl, hn2] at hf2
        rw [hn2] at e1 hlim
        obtain ⟨p, hp⟩ : ∃ y, n * 256 % 18446744073709551616 = y := ⟨_, rfl⟩
        rw [hp] at e1 wp
        replace hn2 := hide hn2
        replace hf2 := hide hf2
        replace hp := hide hp
        go_wp2_with fail
        refine hnum.out.mono ?_
        rintro e w3 ⟨rfl, rfl⟩
        go_wp2_with fail
        refine ⟨⟨k + 1, n2, by omega, rfl, by first | rfl | go_num, hf2.out, hlim, by first | rfl | trivial⟩, by simp only [intOf]; omega⟩
    · have i1 : ((k : Int) < (ws.length : Int)) = False := by rw [eq_iff_iff, iff_false]; omega
      have hdn : ws.drop k = [] := List.drop_of_length_le (by omega)
      rw [hdn, foldW] at hf
      have hq4 : ((ws.length : Int) == 4) = decide (ws.length = 4) := by rw [Bool.eq_iff_iff]; simp; omega
      have hR0 : R = (n, decide (ws.length = 4)) := by rw [hRF.out, ← hf]
      subst hR0
      replace hdn := hide hdn
      replace hf := hide hf
      go_upto_region 11 with fail
      apply wp_region_lit
      iterate 5 (refine wpList_plain rfl fun K hK => ?_; go_simp; refine hK _ _ ?_; clear hK K)
      refine wpl_st rfl 27 (.tmp 2) (.tmp 32) rfl w.heap.size 0 rfl #[.bool false, .int .u64 0, .int .u64 (n : Int)] rfl hg2.out (show 0 + 3 ≤ 3 by omega) (by kernel_rfl) (adr_one _ _ _) fun w4 hg4 g4 => ?_
      rw [putA_whole _ _ (by rfl)] at hg4
      have hb4 : Below w.heap.size w w4 := hB2.out.trans (below_grown g4 (by omega) (Nat.le_refl _))
      have hld : (loadVar 27 ⟨w.heap.size, 0, none⟩).run Tryd.prog w4 = .ok (.agg #[.bool false, .int .u64 0, .int .u64 (n : Int)]) w4 := by
        simpa using run_loadVar_mid w4 w.heap.size 0 27 [.bool false, .int .u64 0, .int .u64 (n : Int)] _ (blk_range hg4) Tryd.underlying27 rfl (by kernel_rfl)
      clear hg4 g4
      replace hld := hide hld
      replace hb4 := hide hb4
      iterate 1 (refine wpList_plain rfl fun K hK => ?_; go_simp; refine hK _ _ ?_; clear hK K)
      refine wpList_nil ?_
      go_simp
      go_wp2_with fail
      exact bodyPost_ret (v := .tuple #[.agg #[.bool false, .int .u64 0, .int .u64 (n : Int)], .bool (decide (ws.length = 4))]) (by simp [results, Tryd.results92, asAddr, hld.out, Result.andThen]) rfl ⟨by first | rfl | (congr 5; rw [Bool.eq_iff_iff]; simp; omega), hb4.out⟩
end Addr05
end Go.Proofs.YtcpokkkdmenmgaaDoor
/- addr: list: the groups that a text is. Condition: the cell of bytealg.MaxLen, a text of at most 80 bytes. -/
namespace Go.Proofs.YtcpokkkdmenmgaaDoor
open Go.RowKit Go.ChangeShapes Go.WideShapes Go.ChangeAt Go.Deep
namespace Addr05
/-- The numbers that parts are. -/
def nums : List (List UInt8) → Option (List Nat)
  | [] => some []
  | x :: r => if (numF 16 65535 x).2 = true then (nums r).map ((numF 16 65535 x).1 :: ·) else none
def listF (s : List UInt8) : Option (List Nat) := if s = [] then some [] else nums (splitL 58 s)
set_option maxRecDepth 20000 in
set_option maxHeartbeats 8000000 in
theorem list_any (s : List UInt8) (hs : s.length ≤ 80) (w : World) (hm : MaxAt w) :
    Calls Tryd.prog 105 #[.string (str s)] w fun e w' => ∃ v, e = .returned (.tuple #[v, .bool (listF s).isSome]) ∧ OwnR 25 u64v w' w.heap.size v ((listF s).getD []) ∧ Below w.heap.size w w' := by
  have hte : (str s).toList.isEmpty = s.isEmpty := by rw [str_toList]
  by_cases h0 : s = []
  · have t0 : (str s).toList.isEmpty = true := by rw [hte, h0]; rfl
    have hL : listF s = some [] := by unfold listF; rw [if_pos h0]
    rw [hL]
    clear hte hL
    replace h0 := hide h0
    go_enter Tryd.func105, Tryd.ntmps105
    go_wp2_with fail
    go_ret2
    exact ⟨_, rfl, OwnR.nil _ _, Below.refl _ _⟩
  have t0 : (str s).toList.isEmpty = false := by rw [hte]; simpa using h0
  have hL : listF s = nums (splitL 58 s) := by unfold listF; rw [if_neg h0]
  rw [hL]
  clear hte hL
  have hsp := split_any 58 s hs w hm
  have hpl := split_part 58 s
  have hll := split_len 58 s
  obtain ⟨ws, hws⟩ : ∃ ws, splitL 58 s = ws := ⟨_, rfl⟩
  rw [hws] at hsp hpl hll ⊢
  obtain ⟨F, hF⟩ : ∃ F, nums ws = F := ⟨_, rfl⟩
  rw [hF]
  replace h0 := hide h0
  replace hsp := hide hsp
  replace hpl := hide hpl
  replace hF := hide hF
  replace hws := hide hws
  replace hm := hide hm
  go_enter Tryd.func105, Tryd.ntmps105
  go_wp2_with fail
  refine hsp.out.mono ?_
  rintro e w2 ⟨A, c, rfl, hx, hc, hb2⟩
  have hz2 := hb2.size
  clear hsp
  replace hx := hide hx
  replace hb2 := hide hb2
  go_wp2_with fail
  go_loopw [4, 14] (fun v kv wr => ∃ (k : Nat) (pre : List Nat), k ≤ ws.length ∧ kv = .int .i64 (k : Int) ∧ pre.length = k ∧ (nums (ws.drop k)).map (pre ++ ·) = F ∧ OwnR 25 u64v wr w2.heap.size v pre ∧ Below w2.heap.size w2 wr) (fun _ kv _ => ws.length - (intOf kv).toNat)
  case atStart => exact ⟨0, [], by omega, rfl, rfl, by rw [← hF.out]; simp, OwnR.nil _ _, Below.refl _ _⟩
  case round =>
    obtain ⟨k, pre, hk, rfl, hpk, hf, hv, hBr⟩ := hrel
    replace hf := hide hf
    replace hv := hide hv
    replace hBr := hide hBr
    by_cases hks : k < ws.length
    · have i1 : (k : Int) < (ws.length : Int) := by omega
      have i2 : (0 : Int) ≤ (k : Int) := by omega
      obtain ⟨b, off, x, rfl, hb, hxk, hcx⟩ := (IsR.on hx.out hBr.out).at hks
      unfold strv at hcx
      have hxl := hpl.out x (List.mem_of_getElem? hxk)
      have hnum := number_any 16 65535 (.inr rfl) (by omega) x (by omega) wr
      have hf1 := hf.out
      rw [drop_cons hxk, nums] at hf1
      obtain ⟨n, hn⟩ : ∃ n, (numF 16 65535 x).1 = n := ⟨_, rfl⟩
      obtain ⟨o, ho⟩ : ∃ o, (numF 16 65535 x).2 = o := ⟨_, rfl⟩
      rw [hn, ho] at hf1 hnum
      have hzr := hBr.out.size
      clear hf
      replace hf1 := hide hf1
      replace hnum := hide hnum
      replace hxk := hide hxk
      replace hn := hide hn
      replace ho := hide ho
      cases o
      · have hF0 : F = none := by
          have hf2 := hf1.out
          rw [if_neg (by simp)] at hf2
          rw [← hf2]; rfl
        subst hF0
        go_wp2_with fail
        refine hnum.out.mono ?_
        rintro e w3 ⟨rfl, rfl⟩
        go_wp2_with fail
        go_ret2
        exact ⟨_, rfl, OwnR.nil _ _, hb2.out.trans (hBr.out.mono hz2)⟩
      · have hf2 := hf1.out
        rw [if_pos rfl, Option.map_map] at hf2
        replace hf2 := hide hf2
        have hpl8 : pre.length ≤ 81 := by omega
        go_wp2_with fail
        refine hnum.out.mono ?_
        rintro e w3 ⟨rfl, rfl⟩
        go_upto_region 10 with fail
        apply wp_region_lit
        iterate 3 (refine wpList_plain rfl fun K hK => ?_; go_simp; refine hK _ _ ?_; clear hK K)
        refine wpl_lit_r Tryd.underlying170 info_u64 rfl (by omega) u64_one rfl (.tmp 25) (.tmp 27) rfl w2.heap.size _ pre [n] 1 1 rfl rfl ?_ rfl ?_ ?_ ?_ ?_
        · rfl
        · exact hv.out
        · omega
        · omega
        intro v' w' hown' hg'
        have hb' : Below w2.heap.size w2 w' := hBr.out.trans (hg'.belowR hv.out (by omega))
        clear hg'
        replace hown' := hide hown'
        replace hb' := hide hb'
        iterate 1 (refine wpList_plain rfl fun K hK => ?_; go_simp; refine hK _ _ ?_; clear hK K)
        refine wpList_nil ?_
        go_simp
        go_wp2_with fail
        refine ⟨⟨k + 1, pre ++ [n], by omega, by first | rfl | go_num, by rw [List.length_append, hpk]; rfl, ?_, hown'.out, hb'.out⟩, by simp only [intOf]; omega⟩
        have h := hf2.out
        rw [← h]
        congr 1
        funext l
        simp
    · have i1 : ((k : Int) < (ws.length : Int)) = False := by rw [eq_iff_iff, iff_false]; omega
      have hdn : ws.drop k = [] := List.drop_of_length_le (by omega)
      have hf1 := hf.out
      rw [hdn, nums] at hf1
      have hF0 : F = some pre := by rw [← hf1]; simp
      subst hF0
      replace hdn := hide hdn
      replace hf1 := hide hf1
      go_wp2_with fail
      go_ret2
      exact ⟨_, rfl, hv.out.weaken hz2, hb2.out.trans (hBr.out.mono hz2)⟩
end Addr05
end Go.Proofs.YtcpokkkdmenmgaaDoor
/- addr: plain: what Parse makes of a text is the address whose text it is, or none; what Text makes is parsed again. No condition. -/
namespace Go.Proofs.YtcpokkkdmenmgaaDoor
open Go.RowKit Go.ChangeShapes Go.WideShapes Go.ChangeAt Go.Deep
namespace Addr05
theorem index_app (c : UInt8) : ∀ (x r : List UInt8), c ∉ x → Lib.index (x ++ c :: r) [c] = (x.length : Int)
  | [], r, _ => by simp [Lib.index, List.isPrefixOf]
  | a :: x, r, h => by
    rw [List.mem_cons, not_or] at h
    have ih := index_app c x r h.2
    rw [List.cons_append, Lib.index, ih]
    have : ([c] : List UInt8).isPrefixOf (a :: (x ++ c :: r)) = false := by simp [List.isPrefixOf, h.1]
    rw [this]
    have h2 : ((x.length : Int) == -1) = false := by rw [beq_eq_false_iff_ne]; omega
    simp [h2]
theorem index_no (c : UInt8) : ∀ (x : List UInt8), c ∉ x → Lib.index x [c] = -1
  | [], _ => by simp [Lib.index]
  | a :: x, h => by
    rw [List.mem_cons, not_or] at h
    have ih := index_no c x h.2
    rw [Lib.index, ih]
    have : ([c] : List UInt8).isPrefixOf (a :: x) = false := by simp [List.isPrefixOf, h.1]
    rw [this]
    simp
theorem split_app (c : UInt8) (x r : List UInt8) (h : c ∉ x) : splitL c (x ++ c :: r) = x :: splitL c r := by
  have hi : Lib.indexB (str (x ++ c :: r)) (str [c]) = (x.length : Int) := index_app c x r h
  have hx : (str (x ++ c :: r)).extract (x.length + (str [c]).size) (str (x ++ c :: r)).size = str r := by
    apply ByteArray.ext
    apply Array.ext'
    rw [Lib.extract_to_end]
    show (x ++ c :: r).drop (x.length + 1) = r
    simp
  have hy : (str (x ++ c :: r)).extract 0 (x.length + 0) = str x := by
    apply ByteArray.ext
    apply Array.ext'
    simp [str]
  unfold splitL
  rw [Lib.countB_hit _ _ x.length (Nat.le_refl _) hi, hx, Nat.add_comm 1, Lib.splitB_hit _ _ _ _ _ hi, hx, hy]
  rfl
theorem split_no (c : UInt8) (x : List UInt8) (h : c ∉ x) : splitL c x = [x] := by
  have hi : Lib.indexB (str x) (str [c]) = -1 := index_no c x h
  unfold splitL
  rw [Lib.countB_miss _ _ hi]
  rfl
theorem split_tail (c : UInt8) : ∀ (r : List (List UInt8)) (x : List UInt8), c ∉ x → (∀ y ∈ r, c ∉ y) → splitL c (x ++ Lib.joinTail [c] r) = x :: r
  | [], x, h, _ => by simp [Lib.joinTail, split_no c x h]
  | y :: r, x, h, hr => by
    have e : x ++ Lib.joinTail [c] (y :: r) = x ++ c :: (y ++ Lib.joinTail [c] r) := by simp [Lib.joinTail]
    rw [e, split_app c _ _ h, split_tail c r y (hr y List.mem_cons_self) fun z hz => hr z (List.mem_cons_of_mem _ hz)]
theorem split_join (c : UInt8) (xs : List (List UInt8)) (h0 : xs ≠ []) (h : ∀ x ∈ xs, c ∉ x) : splitL c (Lib.join xs [c]) = xs := by
  cases xs with
  | nil => exact absurd rfl h0
  | cons x r => rw [Lib.join_cons, split_tail c r x (h x List.mem_cons_self) fun z hz => h z (List.mem_cons_of_mem _ hz)]
theorem hexV_hexC : ∀ d, d < 16 → hexV (hexC d) = (d : Int) := by decide
theorem hexC_ne : ∀ d, d < 16 → hexC d ≠ 46 ∧ hexC d ≠ 58 ∧ (hexC d = 48 → d = 0) := by decide
theorem digF_mem (b : Nat) (hb : 0 < b) : ∀ k n x, x ∈ digF b k n → ∃ d, d < b ∧ x = hexC d
  | 0, n, x, h => by cases h
  | k + 1, n, x, h => by
    rw [digF] at h
    split at h
    · rename_i hn
      rw [List.mem_singleton] at h
      exact ⟨n, hn, h⟩
    · rcases List.mem_append.1 h with h | h
      · exact digF_mem b hb k _ x h
      · rw [List.mem_singleton] at h
        exact ⟨n % b, Nat.mod_lt _ hb, h⟩
theorem digL_no (b n : Nat) (hb : b = 10 ∨ b = 16) : (46 : UInt8) ∉ digL b n ∧ (58 : UInt8) ∉ digL b n := by
  constructor
  · intro h
    obtain ⟨d, hd, e⟩ := digF_mem b (by omega) _ _ _ h
    exact (hexC_ne d (by omega)).1 e.symm
  · intro h
    obtain ⟨d, hd, e⟩ := digF_mem b (by omega) _ _ _ h
    exact (hexC_ne d (by omega)).2.1 e.symm
theorem digL_ne (b n : Nat) : digL b n ≠ [] := by
  unfold digL
  rw [digF]
  split <;> simp
theorem foldN_cons (b n d : Nat) (r : List UInt8) (hd : d < b) (hb : b ≤ 16) : foldN b n (hexC d :: r) = foldN b (n * b + d) r := by
  rw [foldN, hexV_hexC d (by omega), if_pos ⟨by omega, by omega⟩, Int.toNat_natCast]
theorem numF_of (b most n : Nat) (s : List UInt8) (h1 : s ≠ []) (h2 : s.length ≤ 5) (h3 : s.head? = some 48 → s.length ≤ 1) (h4 : foldN b 0 s = some n) (h5 : n ≤ most) : numF b most s = (n, true) := by
  unfold numF
  rw [if_neg, h4]
  · simp [h5]
  · rintro (h | h | ⟨h, h'⟩)
    · exact h1 h
    · omega
    · have := h3 h; omega
theorem numF_dig10 (n : Nat) (h : n ≤ 255) : numF 10 255 (digL 10 n) = (n, true) := by
  rw [dig10 n h]
  split
  · refine numF_of _ _ _ _ (by simp) (by simp) (by simp) ?_ h
    rw [foldN_cons _ _ _ _ (by omega) (by omega), foldN]; simp
  · split
    · refine numF_of _ _ _ _ (by simp) (by simp) ?_ ?_ h
      · intro h'
        simp only [List.head?_cons, Option.some.injEq] at h'
        have := (hexC_ne (n / 10) (by omega)).2.2 h'
        omega
      · rw [foldN_cons _ _ _ _ (by omega) (by omega), foldN_cons _ _ _ _ (by omega) (by omega), foldN]; congr 1; omega
    · refine numF_of _ _ _ _ (by simp) (by simp) ?_ ?_ h
      · intro h'
        simp only [List.head?_cons, Option.some.injEq] at h'
        have := (hexC_ne (n / 100) (by omega)).2.2 h'
        omega
      · rw [foldN_cons _ _ _ _ (by omega) (by omega), foldN_cons _ _ _ _ (by omega) (by omega), foldN_cons _ _ _ _ (by omega) (by omega), foldN]; congr 1; omega
theorem numF_dig16 (n : Nat) (h : n ≤ 65535) : numF 16 65535 (digL 16 n) = (n, true) := by
  rw [dig16 n h]
  split
  · refine numF_of _ _ _ _ (by simp) (by simp) (by simp) ?_ h
    rw [foldN_cons _ _ _ _ (by omega) (by omega), foldN]; simp
  · split
    · refine numF_of _ _ _ _ (by simp) (by simp) ?_ ?_ h
      · intro h'
        simp only [List.head?_cons, Option.some.injEq] at h'
        have := (hexC_ne (n / 16) (by omega)).2.2 h'
        omega
      · rw [foldN_cons _ _ _ _ (by omega) (by omega), foldN_cons _ _ _ _ (by omega) (by omega), foldN]; congr 1; omega
    · split
      · refine numF_of _ _ _ _ (by simp) (by simp) ?_ ?_ h
        · intro h'
          simp only [List.head?_cons, Option.some.injEq] at h'
          have := (hexC_ne (n / 256) (by omega)).2.2 h'
          omega
        · rw [foldN_cons _ _ _ _ (by omega) (by omega), foldN_cons _ _ _ _ (by omega) (by omega), foldN_cons _ _ _ _ (by omega) (by omega), foldN]; congr 1; omega
      · refine numF_of _ _ _ _ (by simp) (by simp) ?_ ?_ h
        · intro h'
          simp only [List.head?_cons, Option.some.injEq] at h'
          have := (hexC_ne (n / 4096) (by omega)).2.2 h'
          omega
        · rw [foldN_cons _ _ _ _ (by omega) (by omega), foldN_cons _ _ _ _ (by omega) (by omega), foldN_cons _ _ _ _ (by omega) (by omega), foldN_cons _ _ _ _ (by omega) (by omega), foldN]; congr 1; omega
theorem d4_no (lo : Nat) : ∀ k, ∀ x ∈ d4 lo k, (46 : UInt8) ∉ x ∧ (58 : UInt8) ∉ x
  | 0, x, h => by cases h
  | k + 1, x, h => by
    rw [d4] at h
    rcases List.mem_cons.1 h with rfl | h
    · exact digL_no 10 _ (.inl rfl)
    · exact d4_no lo k x h
theorem four_text (lo : Nat) (h : lo < 4294967296) : fourF (text4 lo) = (lo, true) := by
  have hs : splitL 46 (text4 lo) = d4 lo 4 := split_join 46 _ (by simp [d4]) fun x hx => (d4_no lo 4 x hx).1
  have hf : foldW 0 (d4 lo 4) = some lo := by
    simp only [d4, foldW]
    rw [numF_dig10 _ (by omega), numF_dig10 _ (by omega), numF_dig10 _ (by omega), numF_dig10 _ (by omega)]
    simp only [if_true]
    congr 1
    simp only [Nat.mul_zero, Nat.pow_zero, Nat.div_one]
    omega
  unfold fourF
  rw [hs, hf]
  simp [d4]
theorem foldW_lt : ∀ (xs : List (List UInt8)) (n m : Nat), foldW n xs = some m → xs.length ≤ 4 → n < 256 ^ (4 - xs.length) → m < 4294967296
  | [], n, m, h, _, hn => by simp [foldW] at h; subst h; exact hn
  | x :: r, n, m, h, hl, hn => by
    rw [foldW] at h
    split at h
    · rename_i hx
      have hle := numF_le 10 255 x hx
      simp only [List.length_cons] at hl hn
      refine foldW_lt r _ m h (by omega) ?_
      have e : 256 ^ (4 - r.length) = 256 ^ (4 - (r.length + 1)) * 256 := by
        rw [← Nat.pow_succ]; congr 1; omega
      have : n * 256 % 18446744073709551616 ≤ n * 256 := Nat.mod_le _ _
      rw [e]
      omega
    · cases h
theorem four_lt (s : List UInt8) (h : (fourF s).2 = true) : (fourF s).1 < 4294967296 := by
  unfold fourF at h ⊢
  split
  · decide
  · rename_i n hn
    rw [hn] at h
    have h4 : (splitL 46 s).length = 4 := of_decide_eq_true h
    exact foldW_lt _ _ _ hn (by omega) (by rw [h4]; decide)
theorem nums_dig : ∀ ws : List Nat, (∀ n ∈ ws, n < 65536) → nums (d6 ws) = some ws
  | [], _ => rfl
  | n :: r, h => by
    show nums (digL 16 n :: d6 r) = _
    rw [nums, numF_dig16 n (by have := h n List.mem_cons_self; omega), if_pos rfl, nums_dig r fun m hm => h m (List.mem_cons_of_mem _ hm)]
    rfl
theorem join_ne {xs : List (List UInt8)} (c : UInt8) (h0 : xs ≠ []) (h : ∀ x ∈ xs, x ≠ []) : Lib.join xs [c] ≠ [] := by
  cases xs with
  | nil => exact absurd rfl h0
  | cons x r =>
    rw [Lib.join_cons]
    simp [h x List.mem_cons_self]
theorem d6_no (ws : List Nat) : ∀ x ∈ d6 ws, x ≠ [] ∧ (58 : UInt8) ∉ x := by
  intro x hx
  obtain ⟨n, _, rfl⟩ := List.mem_map.1 hx
  exact ⟨digL_ne _ _, (digL_no 16 n (.inr rfl)).2⟩
theorem list_join (ws : List Nat) (h : ∀ n ∈ ws, n < 65536) : listF (Lib.join (d6 ws) [58]) = some ws := by
  unfold listF
  by_cases h0 : ws = []
  · subst h0
    rfl
  · have h1 : d6 ws ≠ [] := by simpa [d6] using h0
    rw [if_neg (join_ne 58 h1 fun x hx => (d6_no ws x hx).1), split_join 58 _ h1 fun x hx => (d6_no ws x hx).2, nums_dig ws h]
def shift (k : Nat) (i : Int) : Int := if i = -1 then -1 else i + k
theorem index_cons (a : UInt8) (y sub : List UInt8) (h : sub.isPrefixOf (a :: y) = false) : Lib.index (a :: y) sub = shift 1 (Lib.index y sub) := by
  rw [Lib.index, h]
  unfold shift
  by_cases hi : Lib.index y sub = -1
  · simp [hi]
  · simp [hi]
theorem shift_shift (j k : Nat) (i : Int) (h : -1 ≤ i) : shift j (shift k i) = shift (k + j) i := by
  unfold shift
  split
  · simp
  · split
    · omega
    · omega
theorem index_skip : ∀ (x y : List UInt8), (58 : UInt8) ∉ x → Lib.index (x ++ y) [58, 58] = shift x.length (Lib.index y [58, 58])
  | [], y, _ => by
    unfold shift
    simp only [List.nil_append, List.length_nil]
    split
    · assumption
    · omega
  | a :: x, y, h => by
    rw [List.mem_cons, not_or] at h
    rw [List.cons_append, index_cons, index_skip x y h.2, shift_shift _ _ _ (Lib.index_ge _ _)]
    · rfl
    · simp [List.isPrefixOf, h.1]
theorem join_head {xs : List (List UInt8)} (c : UInt8) (h0 : xs ≠ []) (h : ∀ x ∈ xs, x ≠ [] ∧ c ∉ x) : ∃ a l, Lib.join xs [c] = a :: l ∧ a ≠ c := by
  cases xs with
  | nil => exact absurd rfl h0
  | cons x r =>
    have hx := h x List.mem_cons_self
    cases x with
    | nil => exact absurd rfl hx.1
    | cons a x =>
      rw [Lib.join_cons]
      exact ⟨a, _, rfl, fun e => hx.2 (e ▸ List.mem_cons_self)⟩
theorem index_join : ∀ (xs : List (List UInt8)) (y : List UInt8), (∀ x ∈ xs, x ≠ [] ∧ (58 : UInt8) ∉ x) → (y = [] ∨ ∃ r, y = 58 :: 58 :: r) → Lib.index (Lib.join xs [58] ++ y) [58, 58] = shift (Lib.join xs [58]).length (Lib.index y [58, 58])
  | [], y, _, _ => by
    rw [Lib.join_nil]
    exact index_skip [] y (by simp)
  | [x], y, h, _ => by
    rw [Lib.join_one]
    exact index_skip x y (h x List.mem_cons_self).2
  | x :: x2 :: r, y, h, hy => by
    have h2 : ∀ z ∈ x2 :: r, z ≠ [] ∧ (58 : UInt8) ∉ z := fun z hz => h z (List.mem_cons_of_mem _ hz)
    have ih := index_join (x2 :: r) y h2 hy
    obtain ⟨a, l, hal, ha⟩ := join_head 58 (by simp) h2
    have e : Lib.join (x :: x2 :: r) [58] = x ++ 58 :: Lib.join (x2 :: r) [58] := by
      rw [Lib.join_cons, Lib.join_cons]
      simp [Lib.joinTail]
    rw [e, List.append_assoc, index_skip x _ (h x List.mem_cons_self).2]
    rw [hal] at ih ⊢
    rw [List.cons_append, index_cons, ih, shift_shift _ _ _ (Lib.index_ge _ _), shift_shift _ _ _ (Lib.index_ge _ _)]
    · congr 1
      simp
      omega
    · simp [List.isPrefixOf, Ne.symm ha]
theorem cut_hit (xs : List (List UInt8)) (r : List UInt8) (h : ∀ x ∈ xs, x ≠ [] ∧ (58 : UInt8) ∉ x) : Lib.cut (Lib.join xs [58] ++ [58, 58] ++ r) [58, 58] = (Lib.join xs [58], r, true) := by
  have hi := index_join xs (58 :: 58 :: r) h (.inr ⟨r, rfl⟩)
  rw [show Lib.index (58 :: 58 :: r) [58, 58] = 0 by simp [Lib.index, List.isPrefixOf]] at hi
  have e : Lib.join xs [58] ++ [58, 58] ++ r = Lib.join xs [58] ++ 58 :: 58 :: r := by simp
  rw [e]
  unfold Lib.cut
  rw [hi, show shift (Lib.join xs [58]).length 0 = ((Lib.join xs [58]).length : Int) by simp [shift], if_pos (by omega)]
  simp
theorem cut_miss (xs : List (List UInt8)) (h : ∀ x ∈ xs, x ≠ [] ∧ (58 : UInt8) ∉ x) : Lib.cut (Lib.join xs [58]) [58, 58] = (Lib.join xs [58], [], false) := by
  have hi := index_join xs [] h (.inl rfl)
  rw [List.append_nil, show Lib.index [] [58, 58] = -1 by simp [Lib.index]] at hi
  unfold Lib.cut
  rw [hi, show shift (Lib.join xs [58]).length (-1) = -1 by simp [shift], if_neg (by omega)]
/-- A number of 16 bits each. -/
def wordN (g : List Nat) : Nat := g.foldl (fun n x => n * 65536 + x) 0
def sixG (a b : List Nat) : List Nat := a ++ List.replicate (8 - (a.length + b.length)) 0 ++ b
def sixF (s : List UInt8) : Option (Nat × Nat) :=
  match listF (Lib.cut s [58, 58]).1, listF (Lib.cut s [58, 58]).2.1 with
  | some a, some b => if 8 < a.length + b.length ∨ ((Lib.cut s [58, 58]).2.2 = false ∧ a.length ≠ 8) then none else some (wordN ((sixG a b).take 4), wordN ((sixG a b).drop 4))
  | _, _ => none
theorem words_hi (hi lo : Nat) (h : hi < 18446744073709551616) : wordN ((wordsL hi lo).take 4) = hi := by
  simp only [wordsL, List.take_succ_cons, List.take_zero, wordN, List.foldl]
  omega
theorem words_lo (hi lo : Nat) (h : lo < 18446744073709551616) : wordN ((wordsL hi lo).drop 4) = lo := by
  simp only [wordsL, List.drop_succ_cons, List.drop_zero, wordN, List.foldl]
  omega
theorem zeroRun_take : ∀ l : List Nat, l = List.replicate (zeroRun l) 0 ++ l.drop (zeroRun l)
  | [] => rfl
  | n :: r => by
    unfold zeroRun
    by_cases h : n = 0
    · rw [if_pos h, List.replicate_succ, List.drop_succ_cons, List.cons_append, ← zeroRun_take r, h]
    · rw [if_neg h]; rfl
theorem six_text (ws : List Nat) (h8 : ws.length = 8) (hw : ∀ n ∈ ws, n < 65536) : sixF (text6 ws) = some (wordN (ws.take 4), wordN (ws.drop 4)) := by
  unfold text6
  rcases gapL_ok ws h8 with h | ⟨a, h, h2, h3⟩
  · rw [h, if_pos (by decide)]
    unfold sixF
    rw [cut_miss _ (d6_no ws)]
    dsimp only
    rw [list_join ws hw, show listF [] = some [] from rfl]
    dsimp only
    rw [if_neg (by simp [h8])]
    have e : sixG ws [] = ws := by unfold sixG; simp [h8]
    rw [e]
  · rw [h]
    dsimp only
    rw [if_neg (by omega), Int.toNat_natCast]
    have e1 : (d6 ws).take a = d6 (ws.take a) := List.map_take.symm
    have e2 : (d6 ws).drop (a + zeroRun (ws.drop a)) = d6 (ws.drop (a + zeroRun (ws.drop a))) := List.map_drop.symm
    rw [e1, e2]
    obtain ⟨z, hz⟩ : ∃ z, zeroRun (ws.drop a) = z := ⟨_, rfl⟩
    have hw2 := zeroRun_take (ws.drop a)
    rw [hz] at h2 h3 hw2 ⊢
    unfold sixF
    rw [cut_hit _ _ (d6_no _)]
    dsimp only
    rw [list_join _ fun n hn => hw n (List.mem_of_mem_take hn), list_join _ fun n hn => hw n (List.mem_of_mem_drop hn)]
    dsimp only
    have l1 : (ws.take a).length = a := by rw [List.length_take]; omega
    have l2 : (ws.drop (a + z)).length = 8 - (a + z) := by rw [List.length_drop, h8]
    rw [if_neg (by simp [l1, l2]; omega)]
    have e : sixG (ws.take a) (ws.drop (a + z)) = ws := by
      unfold sixG
      rw [l1, l2, show 8 - (a + (8 - (a + z))) = z by omega, List.append_assoc, ← List.drop_drop, ← hw2, List.take_append_drop]
    rw [e]
theorem nums_lt : ∀ (xs : List (List UInt8)) (l : List Nat), nums xs = some l → ∀ n ∈ l, n < 65536
  | [], l, h, n, hn => by simp [nums] at h; subst h; cases hn
  | x :: r, l, h, n, hn => by
    rw [nums] at h
    split at h
    · rename_i hx
      obtain ⟨l', hl', rfl⟩ := Option.map_eq_some_iff.1 h
      rcases List.mem_cons.1 hn with rfl | hn
      · have := numF_le 16 65535 x hx; omega
      · exact nums_lt r l' hl' n hn
    · cases h
theorem list_lt (s : List UInt8) (l : List Nat) (h : listF s = some l) : ∀ n ∈ l, n < 65536 := by
  unfold listF at h
  split at h
  · cases h; intro n hn; cases hn
  · exact nums_lt _ _ h
theorem wordN_lt4 (a b c d : Nat) (ha : a < 65536) (hb : b < 65536) (hc : c < 65536) (hd : d < 65536) : wordN [a, b, c, d] < 18446744073709551616 := by
  simp only [wordN, List.foldl]; omega
theorem wordN_lt (g : List Nat) (h4 : g.length = 4) (h : ∀ n ∈ g, n < 65536) : wordN g < 18446744073709551616 := by
  match g, h4 with
  | [a, b, c, d], _ => exact wordN_lt4 a b c d (h a (by simp)) (h b (by simp)) (h c (by simp)) (h d (by simp))
theorem sixG_len (a b : List Nat) (h : a.length + b.length ≤ 8) : (sixG a b).length = 8 := by
  unfold sixG; simp; omega
theorem sixG_lt (a b : List Nat) (ha : ∀ n ∈ a, n < 65536) (hb : ∀ n ∈ b, n < 65536) : ∀ n ∈ sixG a b, n < 65536 := by
  intro n hn
  unfold sixG at hn
  rcases List.mem_append.1 hn with hn | hn
  · rcases List.mem_append.1 hn with hn | hn
    · exact ha n hn
    · have := List.eq_of_mem_replicate hn; omega
  · exact hb n hn
theorem six_lt (s : List UInt8) (p : Nat × Nat) (h : sixF s = some p) : p.1 < 18446744073709551616 ∧ p.2 < 18446744073709551616 := by
  unfold sixF at h
  split at h
  · rename_i a b ha hb
    split at h
    · cases h
    · rename_i hc
      cases h
      have hl := sixG_len a b (by omega)
      have hg := sixG_lt a b (list_lt _ _ ha) (list_lt _ _ hb)
      exact ⟨wordN_lt _ (by rw [List.length_take]; omega) fun n hn => hg n (List.mem_of_mem_take hn), wordN_lt _ (by rw [List.length_drop]; omega) fun n hn => hg n (List.mem_of_mem_drop hn)⟩
  · cases h
structure Adr where
  v6 : Bool
  hi : Nat
  lo : Nat
def rawF (s : List UInt8) : Option Adr :=
  if 0 ≤ Lib.indexByte s 58 then (sixF s).map fun p => ⟨true, p.1, p.2⟩ else if (fourF s).2 = true then some ⟨false, 0, (fourF s).1⟩ else none
def textA (a : Adr) : List UInt8 := textL a.v6 a.hi a.lo
def parseF (s : List UInt8) : Option Adr :=
  if 39 < s.length then none else match rawF s with | none => none | some a => if textA a = s then some a else none
def Adr.right (a : Adr) : Prop := a.v6 = true ∨ (a.hi = 0 ∧ a.lo < 4294967296)
def Adr.ok (a : Adr) : Prop := a.hi < 18446744073709551616 ∧ a.lo < 18446744073709551616
theorem join_len_le (c : UInt8) (M : Nat) : ∀ xs : List (List UInt8), (∀ x ∈ xs, x.length ≤ M) → (Lib.join xs [c]).length ≤ xs.length * (M + 1) - 1
  | [], _ => by simp [Lib.join_nil]
  | [x], h => by rw [Lib.join_one]; have := h x List.mem_cons_self; simp; exact this
  | x :: y :: r, h => by
    have ih := join_len_le c M (y :: r) fun z hz => h z (List.mem_cons_of_mem _ hz)
    have e : Lib.join (x :: y :: r) [c] = x ++ c :: Lib.join (y :: r) [c] := by
      rw [Lib.join_cons, Lib.join_cons]
      simp [Lib.joinTail]
    have hx := h x List.mem_cons_self
    rw [e, List.length_append, List.length_cons]
    have e1 : (x :: y :: r).length * (M + 1) = (y :: r).length * (M + 1) + (M + 1) := by rw [List.length_cons, Nat.succ_mul]
    have e2 : 0 < (y :: r).length * (M + 1) := Nat.mul_pos (by simp) (by omega)
    omega
theorem dig10_len (n : Nat) (h : n ≤ 255) : (digL 10 n).length ≤ 3 := by
  rw [dig10 n h]; (repeat' split) <;> simp
theorem dig16_len (n : Nat) (h : n ≤ 65535) : (digL 16 n).length ≤ 4 := by
  rw [dig16 n h]; (repeat' split) <;> simp
theorem text4_len (lo : Nat) : (text4 lo).length ≤ 15 := by
  have h : ∀ k, ∀ x ∈ d4 lo k, x.length ≤ 3 := by
    intro k
    induction k with
    | zero => intro x hx; cases hx
    | succ k ih =>
      intro x hx
      rw [d4] at hx
      rcases List.mem_cons.1 hx with rfl | hx
      · exact dig10_len _ (by omega)
      · exact ih x hx
  exact join_len_le 46 3 (d4 lo 4) (h 4)
theorem d6_len4 (ws : List Nat) (hw : ∀ n ∈ ws, n < 65536) : ∀ x ∈ d6 ws, x.length ≤ 4 := by
  intro x hx
  obtain ⟨n, hn, rfl⟩ := List.mem_map.1 hx
  exact dig16_len n (by have := hw n hn; omega)
theorem text6_len (ws : List Nat) (h8 : ws.length = 8) (hw : ∀ n ∈ ws, n < 65536) : (text6 ws).length ≤ 39 := by
  unfold text6
  rcases gapL_ok ws h8 with h | ⟨a, h, h2, h3⟩
  · rw [h, if_pos (by decide)]
    have := join_len_le 58 4 (d6 ws) (d6_len4 ws hw)
    rw [show (d6 ws).length = 8 by simp [d6, h8]] at this
    exact this
  · rw [h]
    dsimp only
    rw [if_neg (by omega), Int.toNat_natCast]
    have l := d6_len4 ws hw
    have h1 := join_len_le 58 4 ((d6 ws).take a) fun x hx => l x (List.mem_of_mem_take hx)
    have h2' := join_len_le 58 4 ((d6 ws).drop (a + zeroRun (ws.drop a))) fun x hx => l x (List.mem_of_mem_drop hx)
    rw [show ((d6 ws).take a).length = a by simp [d6, h8]; omega] at h1
    rw [show ((d6 ws).drop (a + zeroRun (ws.drop a))).length = 8 - (a + zeroRun (ws.drop a)) by simp [d6, h8]] at h2'
    simp only [List.length_append, List.length_cons, List.length_nil]
    omega
theorem indexByte_no (c : UInt8) : ∀ l : List UInt8, c ∉ l → Lib.indexByte l c = -1
  | [], _ => rfl
  | a :: l, h => by
    rw [List.mem_cons, not_or] at h
    rw [Lib.indexByte, indexByte_no c l h.2]
    simp [Ne.symm h.1]
theorem indexByte_mem (c : UInt8) (l : List UInt8) (h : c ∈ l) : 0 ≤ Lib.indexByte l c := by
  have hge := Lib.indexByte_ge l c
  rcases Int.lt_or_le (Lib.indexByte l c) 0 with h1 | h1
  · have h2 : Lib.indexByte l c = -1 := by omega
    obtain ⟨k, hk, e⟩ := List.mem_iff_getElem.1 h
    exact absurd (List.getElem?_eq_some_iff.2 ⟨hk, e⟩) (Lib.indexByte_none h2 k)
  · exact h1
theorem join_no (c : UInt8) (s : UInt8) (hs : c ≠ s) : ∀ xs : List (List UInt8), (∀ x ∈ xs, c ∉ x) → c ∉ Lib.join xs [s]
  | [], _ => by simp [Lib.join_nil]
  | [x], h => by rw [Lib.join_one]; exact h x List.mem_cons_self
  | x :: y :: r, h => by
    have e : Lib.join (x :: y :: r) [s] = x ++ s :: Lib.join (y :: r) [s] := by
      rw [Lib.join_cons, Lib.join_cons]
      simp [Lib.joinTail]
    rw [e, List.mem_append, not_or, List.mem_cons, not_or]
    exact ⟨h x List.mem_cons_self, hs, join_no c s hs (y :: r) fun z hz => h z (List.mem_cons_of_mem _ hz)⟩
theorem text6_has (ws : List Nat) (h8 : ws.length = 8) : (58 : UInt8) ∈ text6 ws := by
  unfold text6
  split
  · match ws, h8 with
    | a :: b :: r, _ =>
      show 58 ∈ Lib.join (digL 16 a :: digL 16 b :: d6 r) [58]
      rw [Lib.join_cons]
      simp [Lib.joinTail]
  · simp
theorem raw_text (a : Adr) (hr : a.right) (ho : a.ok) : rawF (textA a) = some a := by
  obtain ⟨v, hi, lo⟩ := a
  obtain ⟨h1, h2⟩ := ho
  dsimp only at h1 h2
  cases v with
  | true =>
    unfold rawF
    show (if 0 ≤ Lib.indexByte (text6 (wordsL hi lo)) 58 then (sixF (text6 (wordsL hi lo))).map _ else _) = _
    rw [if_pos (indexByte_mem _ _ (text6_has _ rfl)), six_text _ rfl (wordsL_lt hi lo), words_hi hi lo h1, words_lo hi lo h2]
    rfl
  | false =>
    have h3 : hi = 0 ∧ lo < 4294967296 := by
      rcases hr with h | h
      · cases h
      · exact h
    obtain ⟨rfl, h3⟩ := h3
    unfold rawF
    show (if 0 ≤ Lib.indexByte (text4 lo) 58 then _ else if (fourF (text4 lo)).2 = true then some (Adr.mk false 0 (fourF (text4 lo)).1) else none) = _
    have hno : Lib.indexByte (text4 lo) 58 = -1 := indexByte_no 58 _ (join_no 58 46 (by decide) _ fun x hx => (d4_no lo 4 x hx).2)
    rw [if_neg (by omega), four_text lo h3, if_pos rfl]
theorem textA_len (a : Adr) : (textA a).length ≤ 39 := by
  unfold textA textL
  split
  · exact text6_len _ rfl (wordsL_lt _ _)
  · exact Nat.le_trans (text4_len _) (by decide)
theorem parse_text (a : Adr) (hr : a.right) (ho : a.ok) : parseF (textA a) = some a := by
  unfold parseF
  rw [if_neg (by have := textA_len a; omega), raw_text a hr ho]
  simp
theorem raw_ok (s : List UInt8) (a : Adr) (h : rawF s = some a) : a.ok ∧ a.right := by
  unfold rawF at h
  split at h
  · obtain ⟨p, hp, rfl⟩ := Option.map_eq_some_iff.1 h
    exact ⟨six_lt s p hp, .inl rfl⟩
  · split at h
    · rename_i hf
      cases h
      have := four_lt s hf
      exact ⟨⟨by dsimp only; omega, by dsimp only; omega⟩, .inr ⟨rfl, this⟩⟩
    · cases h
theorem parse_some (s : List UInt8) (a : Adr) (h : parseF s = some a) : textA a = s ∧ a.ok ∧ a.right := by
  unfold parseF at h
  split at h
  · cases h
  · split at h
    · cases h
    · rename_i b hb
      split at h
      · rename_i ht
        cases h
        exact ⟨ht, raw_ok s _ hb⟩
      · cases h
end Addr05
end Go.Proofs.YtcpokkkdmenmgaaDoor
