/- The statement SixParses, walked: any bytes are parsed as the packet that they are, or as none; and what they quote. Conditions: slices of bytes that read as lists. -/
import Derived.Test.YtdmgbngdpjcliaaSixLawChain
import Derived.Test.YtdmgbngdpjcliaaSixSame
import Derived.Test.YtdmgbngdpjcliaaSixAgain
namespace Go.Proofs.Ytdmgbngdpjcliaa
open Go.RowKit Go.ChangeShapes Go.WideShapes Go.ChangeAt Go.Deep
namespace Six
abbrev hd0C : Obj := hdC 0 0 0 false 0 0 false 0 0 none 0 0 0
set_option maxRecDepth 20000 in
set_option maxHeartbeats 8000000 in
theorem parses_bad (A : Option Addr) (n0 n c : Nat) (xs : List UInt8) (w : World) (hx : IsB w w.heap.size A n xs) (hn : min n0 500 = n) (hnc : n0 ≤ c) (hcm : c ≤ maxLen) (K : Nat) (hK : (n < 40 ∧ K = 2) ∨ (40 ≤ n ∧ (xs.getD 0 0).toNat / 16 ≠ 6 ∧ K = 10)) :
    Calls Try.prog 3 #[.slice A n0 c] w fun e w' => e = .returned (.bool true) ∧ Below w.heap.size w w' := by
  have hK0 : K ≠ 0 := by omega
  have hn0 : n0 ≤ maxLen := by omega
  have hpk : parseK n xs = K := by
    unfold parseK
    rcases hK with ⟨h, rfl⟩ | ⟨h, h2, rfl⟩
    · rw [if_pos h]
    · rw [if_neg (by omega), if_pos h2]
  have hqk : quoteK n xs = K := by
    unfold quoteK
    rcases hK with ⟨h, rfl⟩ | ⟨h, h2, rfl⟩
    · rw [if_pos h]
    · rw [if_neg (by omega), if_pos h2]
  have hnc1 : n ≤ c := by omega
  have hnm : n ≤ 1099511627776 := by omega
  have hp := fun (W : World) (h : IsB W W.heap.size A n xs) => parse_any A n c xs W h hnc1 hcm hnm _ _ _ _ _ _ _ rfl rfl rfl rfl rfl rfl rfl
  have hq := fun (W : World) (h : IsB W W.heap.size A n xs) => quote_any A n c xs W h hnc1 hcm hnm _ _ _ _ _ _ _ rfl rfl rfl rfl rfl rfl rfl
  rw [hpk] at hp
  rw [hqk] at hq
  clear hpk hqk
  have hcase : (n < 40 ∧ K = 2) ∨ (40 ≤ n ∧ ∃ b off v0, A = some ⟨b, off, none⟩ ∧ b < w.heap.size ∧ w.cell? ⟨b, off, none⟩ = some (.int .u8 (v0 : Nat)) ∧ v0 / 16 ≠ 6 ∧ v0 ≤ 255 ∧ K = 10) := by
    rcases hK with h | ⟨h, h2, rfl⟩
    · exact .inl h
    · obtain ⟨b, off, v0, hA, hbl, hv0, hv0l, hc0⟩ := hx.byte (i := 0) (by omega)
      rw [Nat.add_zero] at hc0
      exact .inr ⟨h, b, off, v0, hA, hbl, hc0, by rw [← hv0]; exact h2, hv0l, rfl⟩
  clear hK
  replace hn := hide hn
  replace hp := hide hp
  replace hq := hide hq
  replace hcase := hide hcase
  replace hx := hide hx
  go_enter Try.func3, Try.ntmps3
  go_wp2_with fail
  refine (cut_as A n0 c n _ hn0 hnc hn.out).mono ?_
  rintro e w' ⟨rfl, rfl⟩
  go_wp2_with fail
  refine (hp.out _ hx.out).mono ?_
  rintro e w1 ⟨he, _, hb1⟩
  obtain rfl := he hK0
  clear he
  have hx1 := (hx.out.on hb1).alloc hd0C
  unfold hd0C hdC at hx1
  replace hx1 := hide hx1
  replace hb1 := hide hb1
  go_wp2_with fail
  refine (hq.out _ hx1.out).mono ?_
  rintro e w2 ⟨he, _, hb2⟩
  obtain rfl := he hK0
  clear he
  have hb2' : Below w1.heap.size w1 w2 := ((Below.refl _ _).alloc (Nat.le_refl _) _).trans (hb2.mono (by simp))
  have hz2 := hb2.size
  simp only [World.size_alloc] at hz2
  have hg2 := blk_below hb2 (by simp) (blk_new _ _ _)
  have hB2 := hb1.out.trans (hb2'.mono hb1.out.size)
  have hB3 : Below w.heap.size w (w2.alloc hd0C) := hB2.alloc hB2.size _
  have hg3 := blk_old hd0C (by omega) hg2
  have hg3x := blk_new w2 29 #[.int .i64 0, .int .i64 0, .int .i64 0, .bool false, .int .u64 0, .int .u64 0, .bool false, .int .u64 0, .int .u64 0, .slice none 0 0, .int .i64 0]
  unfold hd0C hdC at hB3 hg3
  have hcg := blk_cell hg3
  have hcgx := blk_cell hg3x
  have hcase2 : (n < 40 ∧ K = 2) ∨ (40 ≤ n ∧ ∃ b off v0, A = some ⟨b, off, none⟩ ∧ w2.cell? ⟨b, off, none⟩ = some (.int .u8 (v0 : Nat)) ∧ (w2.alloc (.cells #[.int .i64 0, .int .i64 0, .int .i64 0, .bool false, .int .u64 0, .int .u64 0, .bool false, .int .u64 0, .int .u64 0, .slice none 0 0, .int .i64 0] 29)).cell? ⟨b, off, none⟩ = some (.int .u8 (v0 : Nat)) ∧ v0 / 16 ≠ 6 ∧ v0 ≤ 255 ∧ K = 10) := by
    rcases hcase.out with h | ⟨h, b, off, v0, hA, hbl, hc0, h2, hvl, hk⟩
    · exact .inl h
    · exact .inr ⟨h, b, off, v0, hA, (hB2.cell (p := ⟨b, off, none⟩) hbl).trans hc0, (hB3.cell (p := ⟨b, off, none⟩) hbl).trans hc0, h2, hvl, hk⟩
  clear hb2 hb2'
  replace hg2 := hide hg2
  replace hB2 := hide hB2
  replace hB3 := hide hB3
  replace hg3 := hide hg3
  replace hg3x := hide hg3x
  rcases hcase2 with ⟨h, rfl⟩ | ⟨h, b, off, v0, rfl, hc0, hc0', hne, hv0l, rfl⟩
  case inl =>
    have q1 : (n : Int) < 40 := by omega
    go_wp2_with fail
    refine (same_any 0 0 0 false 0 0 false 0 0 none 0 0 none 0 0 0 [] [] _ (IsX.nil _ _ _) (IsX.nil _ _ _) rfl (by omega)).mono ?_
    rintro e w4 ⟨rfl, hb4⟩
    have hg4 := blk_below hb4 (by simp; omega) hg3.out
    have hg4x := blk_below hb4 (by simp) hg3x.out
    have hB4 := hB3.out.trans (hb4.mono hB3.out.size)
    clear hcg hcgx hb4
    have hcg := blk_cell hg4
    have hcgx := blk_cell hg4x
    replace hg4 := hide hg4
    replace hg4x := hide hg4x
    replace hB4 := hide hB4
    go_wp2_with fail
    refine (same_any 0 0 0 false 0 0 false 0 0 none 0 0 none 0 0 0 [] [] _ (IsX.nil _ _ _) (IsX.nil _ _ _) rfl (by omega)).mono ?_
    rintro e w5 ⟨rfl, hb5⟩
    have hB5 := hB4.out.trans (hb5.mono hB4.out.size)
    clear hcg hcgx hb5
    replace hB5 := hide hB5
    go_wp2_with fail
    refine (awake_any _).mono ?_
    rintro e w6 ⟨rfl, hb6⟩
    have hB6 := hB5.out.trans (hb6.mono hB5.out.size)
    clear hb6
    replace hB6 := hide hB6
    go_wp2_with fail
    go_ret
    exact ⟨rfl, hB6.out⟩
  case inr =>
    have q1 : ¬ (n : Int) < 40 := by omega
    have q2 : (((v0 : Int) / 16) != 6) = true := by rw [bne_iff_ne]; omega
    have q3 : (0 : Int) < (n : Int) := by omega
    go_wp2_with fail
    refine (same_any 0 0 0 false 0 0 false 0 0 none 0 0 none 0 0 0 [] [] _ (IsX.nil _ _ _) (IsX.nil _ _ _) rfl (by omega)).mono ?_
    rintro e w4 ⟨rfl, hb4⟩
    have hg4 := blk_below hb4 (by simp; omega) hg3.out
    have hg4x := blk_below hb4 (by simp) hg3x.out
    have hB4 := hB3.out.trans (hb4.mono hB3.out.size)
    clear hcg hcgx hb4
    have hcg := blk_cell hg4
    have hcgx := blk_cell hg4x
    replace hg4 := hide hg4
    replace hg4x := hide hg4x
    replace hB4 := hide hB4
    go_wp2_with fail
    refine (same_any 0 0 0 false 0 0 false 0 0 none 0 0 none 0 0 0 [] [] _ (IsX.nil _ _ _) (IsX.nil _ _ _) rfl (by omega)).mono ?_
    rintro e w5 ⟨rfl, hb5⟩
    have hB5 := hB4.out.trans (hb5.mono hB4.out.size)
    clear hcg hcgx hb5
    replace hB5 := hide hB5
    go_wp2_with fail
    refine (awake_any _).mono ?_
    rintro e w6 ⟨rfl, hb6⟩
    have hB6 := hB5.out.trans (hb6.mono hB5.out.size)
    clear hb6
    replace hB6 := hide hB6
    go_wp2_with fail
    go_ret
    exact ⟨rfl, hB6.out⟩
theorem LCh.form {R : Option (List (Int × List UInt8) × Nat × List UInt8)} {w w' : World} {e : Ending} (h : LCh R w w' e) :
    ∃ (X : Option Addr) (m xc nx : Nat) (A2 : Option Addr) (n2 c2 : Nat) (rest : List UInt8), e = .returned (.tuple #[.slice X m xc, .int .i64 (nx : Int), .slice A2 n2 c2, .bool R.isSome]) ∧ IsB w' w'.heap.size A2 n2 rest ∧ (∀ acc next rs, R = some (acc, next, rs) → m = acc.length ∧ nx = next ∧ rest = rs) ∧ Below w.heap.size w w' := by
  obtain ⟨h1, h2, h3⟩ := h
  rcases R with _ | ⟨acc, next, rs⟩
  · exact ⟨none, 0, 0, 0, none, 0, 0, [], h1 rfl, IsB.nil _ _ _, (fun _ _ _ h => by cases h), h3⟩
  · obtain ⟨X, xc, A2, c2, he, hi, _, _⟩ := h2 acc next rs rfl
    refine ⟨X, acc.length, xc, next, A2, rs.length, c2, rs, he, hi.more h3.size, fun a b c h => ?_, h3⟩
    cases h
    exact ⟨rfl, rfl, rfl⟩
set_option maxRecDepth 20000 in
set_option maxHeartbeats 16000000 in
theorem parses_good (A : Option Addr) (n0 n c : Nat) (xs : List UInt8) (w : World) (hx : IsB w w.heap.size A n xs) (hn : min n0 500 = n) (hnc : n0 ≤ c) (hcm : c ≤ maxLen) (h40 : 40 ≤ n) (hv : (xs.getD 0 0).toNat / 16 = 6) :
    Calls Try.prog 3 #[.slice A n0 c] w fun e w' => e = .returned (.bool true) ∧ Below w.heap.size w w' := by
  have hn0 : n0 ≤ maxLen := by omega
  have hn5 : n ≤ 500 := by omega
  have hxl := hx.1
  obtain ⟨RQ, hRQ⟩ : ∃ R, chainF 9 (xs.getD 6 0).toNat (xs.drop 40) [] = R := ⟨_, rfl⟩
  obtain ⟨sz, hsz⟩ : ∃ sz, beN xs 4 2 = sz := ⟨_, rfl⟩
  obtain ⟨RP, hRP⟩ : ∃ R, chainF 9 (xs.getD 6 0).toNat ((xs.take (40 + sz)).drop 40) [] = R := ⟨_, rfl⟩
  obtain ⟨kp, hkp⟩ : ∃ k, parseK n xs = k := ⟨_, rfl⟩
  obtain ⟨kq, hkq⟩ : ∃ k, quoteK n xs = k := ⟨_, rfl⟩
  have hkp' : (if n - 40 < sz then 12 else if RP.isNone then 11 else 0) = kp := by rw [← hkp]; unfold parseK; rw [if_neg (show ¬ n < 40 by omega), if_neg (show ¬ ((xs.getD 0 0).toNat / 16 ≠ 6) from fun h => h hv), hsz, hRP]
  have hkq' : (if RQ.isNone then 11 else 0) = kq := by rw [← hkq]; unfold quoteK; rw [if_neg (show ¬ n < 40 by omega), if_neg (show ¬ ((xs.getD 0 0).toNat / 16 ≠ 6) from fun h => h hv), hRQ]
  have hpr : parseR xs = RP := by unfold parseR; rw [hsz]; exact hRP
  have hqr : quoteR xs = RQ := hRQ
  obtain ⟨cls, q1⟩ : ∃ k, beN xs 0 4 / 1048576 % 256 = k := ⟨_, rfl⟩
  obtain ⟨lab, q2⟩ : ∃ k, beN xs 0 4 % 1048576 = k := ⟨_, rfl⟩
  obtain ⟨hop, q3⟩ : ∃ k, (xs.getD 7 0).toNat = k := ⟨_, rfl⟩
  obtain ⟨shi, q4⟩ : ∃ k, beN xs 8 8 = k := ⟨_, rfl⟩
  obtain ⟨slo, q5⟩ : ∃ k, beN xs 16 8 = k := ⟨_, rfl⟩
  obtain ⟨dhi, q6⟩ : ∃ k, beN xs 24 8 = k := ⟨_, rfl⟩
  obtain ⟨dlo, q7⟩ : ∃ k, beN xs 32 8 = k := ⟨_, rfl⟩
  have hnc1 : n ≤ c := by omega
  have hnm : n ≤ 1099511627776 := by omega
  have hp := fun (W : World) (h : IsB W W.heap.size A n xs) => parse_any A n c xs W h hnc1 hcm hnm _ _ _ _ _ _ _ q1 q2 q3 q4 q5 q6 q7
  have hq := fun (W : World) (h : IsB W W.heap.size A n xs) => quote_any A n c xs W h hnc1 hcm hnm _ _ _ _ _ _ _ q1 q2 q3 q4 q5 q6 q7
  rw [hkp, hpr] at hp
  rw [hkq, hqr] at hq
  -- what comes of a parse
  have hok : ∀ acc next rest, RP = some (acc, next, rest) → ¬ n - 40 < sz → rightHB cls lab hop true true next acc = true ∧ next ≤ 255 ∧ acc.length ≤ 8 ∧ (∀ e ∈ acc, 0 ≤ e.1 ∧ e.1 ≤ 255 ∧ e.2.length ≤ 2047) ∧ rest.length ≤ 4096 ∧
      allB6 cls lab hop shi slo dhi dlo next acc rest = xs.take (40 + sz) := by
    intro acc next rest h hns
    rw [h] at hRP
    have h6 : (xs.getD 6 0).toNat ≤ 255 := by have := (xs.getD 6 0).toNat_lt; omega
    obtain ⟨new, e1, e2, e3, e4, e5, e6, e7⟩ := chainF_sound 9 _ _ [] acc next rest hRP rfl rfl (by simp) h6
    rw [List.nil_append] at e1
    subst e1
    have hall : ∀ e ∈ acc, 0 ≤ e.1 ∧ e.1 ≤ 255 ∧ e.2.length ≤ 2047 := by
      intro e he
      obtain ⟨i, hi, rfl⟩ := List.getElem_of_mem he
      have h1 := rightTo_le _ e4 (k := i + 1) (by omega)
      rw [rightTo_succ _ i _ (List.getElem?_eq_getElem hi)] at h1
      simp only [Bool.and_eq_true] at h1
      have h2 := h1.2.1
      unfold rightExtB isB at h2
      simp only [Bool.and_eq_true, decide_eq_true_eq] at h2
      omega
    have hrl : rest.length ≤ 4096 := by
      have := congrArg List.length e3
      rw [List.length_append, List.length_drop, List.length_take] at this
      omega
    refine ⟨?_, e6, e7, hall, hrl, ?_⟩
    · rw [rightHB_yes ⟨by omega, by omega, by omega, by have := (xs.getD 7 0).toNat_lt; omega, by omega, by omega, rfl, rfl, by omega, by omega, e5, e7⟩]
      exact e4
    · rw [← q1, ← q2, ← q3, ← q4, ← q5, ← q6, ← q7]
      exact all_again xs sz acc next rest (by omega) hv hsz e2 e3
  have b1 : cls ≤ 255 := by omega
  have b2 : lab ≤ 1048575 := by omega
  have b3 : hop ≤ 255 := by have := (xs.getD 7 0).toNat_lt; omega
  have b5 : shi < 18446744073709551616 := by rw [← q4]; exact beN_lt xs 8 8
  have b6 : slo < 18446744073709551616 := by rw [← q5]; exact beN_lt xs 16 8
  have b7 : dhi < 18446744073709551616 := by rw [← q6]; exact beN_lt xs 24 8
  have b8 : dlo < 18446744073709551616 := by rw [← q7]; exact beN_lt xs 32 8
  obtain ⟨b, off, v0, rfl, hbl, hv0, hv0l, hc0⟩ := hx.byte (i := 0) (by omega)
  obtain ⟨v4, hv4, hv4l, hc4⟩ := hx.byteAt (i := 4) (by omega)
  obtain ⟨v5, hv5, hv5l, hc5⟩ := hx.byteAt (i := 5) (by omega)
  obtain ⟨v6, hv6, hv6l, hc6⟩ := hx.byteAt (i := 6) (by omega)
  rw [Nat.add_zero] at hc0
  rw [hv0] at hv
  rw [hv6] at hRQ hRP
  have hszv : v4 * 256 + v5 = sz := by rw [← hsz, ← hv4, ← hv5]; simp [beN]
  have hszl : sz ≤ 65535 := by omega
  clear q1 q2 q3 q4 q5 q6 q7 hkp hkq hpr hqr hv0 hv4 hv5 hv6 hsz
  replace hn := hide hn
  replace hxl := hide hxl
  replace hRQ := hide hRQ
  replace hRP := hide hRP
  replace hkp' := hide hkp'
  replace hkq' := hide hkq'
  replace hp := hide hp
  replace hq := hide hq
  replace hok := hide hok
  replace hx := hide hx
  replace hszv := hide hszv
  replace hc0 := hide hc0
  replace hc4 := hide hc4
  replace hc5 := hide hc5
  replace hc6 := hide hc6
  have r1 : ¬ (n : Int) < 40 := by omega
  have r2 : (((v0 : Int) / 16) != 6) = false := by rw [bne_eq_false_iff_eq]; omega
  have r3 : (0 : Int) < (n : Int) := by omega
  clear hv
  go_enter Try.func3, Try.ntmps3
  go_wp2_with fail
  refine (cut_as _ n0 c n _ hn0 hnc hn.out).mono ?_
  rintro e w' ⟨rfl, rfl⟩
  go_wp2_with fail
  refine (hp.out _ hx.out).mono ?_
  rintro e w1 he
  obtain ⟨cl, la, ho, bs, sh, sl, bd, dh, dl, X, m, xc, nx, A2, n2, c2, es, rest, rfl, hX1, hmx, hxm, hr1, hn2, hc2, hbad, hgood, hb1⟩ := he.form
  obtain ⟨wa, hwa⟩ : ∃ wa, w1.alloc (hdC cl la ho bs sh sl bd dh dl X m xc nx) = wa := ⟨_, rfl⟩
  have hba : Below w1.heap.size w1 wa := hwa ▸ (Below.refl _ _).alloc (Nat.le_refl _) _
  have hga := hwa ▸ blk_new w1 29 #[.int .i64 cl, .int .i64 la, .int .i64 ho, .bool bs, .int .u64 sh, .int .u64 sl, .bool bd, .int .u64 dh, .int .u64 dl, .slice X m xc, .int .i64 nx]
  have hla : w1.heap.size < wa.heap.size := by rw [← hwa]; simp
  unfold hdC at hwa
  have hBa := hb1.trans (hba.mono hb1.size)
  have hxa := (hx.out.on hb1).on hba
  have hXa := hX1.on hba
  have hra := hr1.on hba
  clear he hX1 hr1 hb1 hba
  replace hga := hide hga
  replace hBa := hide hBa
  replace hxa := hide hxa
  replace hXa := hide hXa
  replace hra := hide hra
  replace hbad := hide hbad
  replace hgood := hide hgood
  go_wp2_with fail
  clear hwa
  refine (hq.out _ hxa.out).mono ?_
  rintro e w2 he
  obtain ⟨ycl, yla, yho, ybs, ysh, ysl, ybd, ydh, ydl, Y, ym, yxc, ynx, YA, yn, yc, yes, qrest, rfl, _, _, _, hqr, hqn, hqc, hqbad, hqgood, hb2⟩ := he.form
  obtain ⟨wb, hwb⟩ : ∃ wb, w2.alloc (hdC ycl yla yho ybs ysh ysl ybd ydh ydl Y ym yxc ynx) = wb := ⟨_, rfl⟩
  have hbb : Below w2.heap.size w2 wb := hwb ▸ (Below.refl _ _).alloc (Nat.le_refl _) _
  unfold hdC at hwb
  have hBb := hBa.out.trans ((hb2.trans (hbb.mono hb2.size)).mono hBa.out.size)
  have hb2b := hb2.trans (hbb.mono hb2.size)
  have hgb := blk_below hb2b hla hga.out
  have hlb := Nat.lt_of_lt_of_le hla hb2b.size
  have hxb := hxa.out.on hb2b
  have hXb := hXa.out.on hb2b
  have hrb := hra.out.on hb2b
  have hqb := hqr.on hbb
  clear he hqr hb2 hbb hb2b
  have hd0 := (hBb.cell (p := ⟨b, off, none⟩) hbl).trans hc0.out
  have hd4 := (hBb.cell (p := ⟨b, off + 4, none⟩) hbl).trans hc4.out
  have hd5 := (hBb.cell (p := ⟨b, off + 5, none⟩) hbl).trans hc5.out
  have hd6 := (hBb.cell (p := ⟨b, off + 6, none⟩) hbl).trans hc6.out
  replace hBb := hide hBb
  replace hgb := hide hgb
  replace hxb := hide hxb
  replace hXb := hide hXb
  replace hrb := hide hrb
  replace hqb := hide hqb
  replace hqbad := hide hqbad
  replace hqgood := hide hqgood
  replace hd4 := hide hd4
  replace hd5 := hide hd5
  replace hd6 := hide hd6
  go_wp2_with fail
  clear hwb hd0
  have hf6 := fun l : Later wb => l.cell hd6.out
  have s6 : IntKind.i64.wrap (v6 : Int) = (v6 : Int) := wraps62 _ (by omega) (by omega)
  have r4 : (6 : Int) < (n : Int) := by omega
  have r5 : (40 : Int) ≤ (n : Int) := by omega
  have r6 : (n : Int) ≤ (c : Int) := by omega
  obtain ⟨A40, hA40⟩ : ∃ A', (if c = 40 then some (⟨b, off, none⟩ : Addr) else some ⟨b, off + 40, none⟩) = A' := ⟨_, rfl⟩
  refine wp_region_L (by as_aux_lemma => kernel_rfl) ?_
  refine wpE_seg 0 6 (fuel := 10) (by as_aux_lemma => kernel_rfl) (fun d _ _ _ _ h => by cases d <;> exact h) (by as_aux_lemma => kernel_rfl) (by as_aux_lemma => kernel_rfl) ?_
  simp only [List.drop_succ_cons, List.drop_zero, List.take_succ_cons, List.take_zero]
  iterate 6 (refine wpQE_step (fun K hK => ?_); go_simp; refine hK _ ?_; clear hK K)
  refine wpQE_nil ?_
  clear hf6
  refine wpE_step 6 (fuel := 9) rfl (by as_aux_lemma => kernel_rfl) (fun l K hK => ?_)
  go_simp
  refine (lawChain_any _ (n - 40) (c - 40) (xs.drop 40) v6 _ ((hxb.out.later l).dropAt (k := 40) (cap := c) hA40 h40 hnc1) (by omega) (by omega) hv6l RQ hRQ.out).mono ?_
  rintro e wc hch
  obtain ⟨QX, qm, qxc, qnx, Q2, qn2, qc2, qrs, rfl, hqi, hqsome, hbc⟩ := hch.form
  obtain ⟨okq, hokq⟩ : ∃ o, RQ.isSome = o := ⟨_, rfl⟩
  rw [hokq]
  refine hK _ _ hbc ?_
  clear hK K hch
  refine wpE_seg 7 9 (fuel := 0) (by as_aux_lemma => kernel_rfl) (fun d _ _ _ _ h => by cases d <;> exact h) (by as_aux_lemma => kernel_rfl) (by as_aux_lemma => kernel_rfl) ?_
  simp only [List.drop_succ_cons, List.drop_zero, List.take_succ_cons, List.take_zero]
  iterate 9 (refine wpQE_step (fun K hK => ?_); go_simp; refine hK _ ?_; clear hK K)
  refine wpQE_nil ?_
  refine wpE_done (by as_aux_lemma => kernel_rfl) (fun wd hbd => ?_) 0
  have hbd2 := l.hb.trans ((hbc.trans (hbd.mono hbc.size)).mono l.hb.size)
  have hBd := hBb.out.trans (hbd2.mono hBb.out.size)
  have hgd := blk_below hbd2 hlb hgb.out
  have hld := Nat.lt_of_lt_of_le hlb hbd2.size
  have hxd := hxb.out.on hbd2
  have hXd := hXb.out.on hbd2
  have hrd := hrb.out.on hbd2
  have hqd := hqb.out.on hbd2
  have hqid := hqi.on hbd
  have hst1 := hqd.str yc
  have hst2 := hqid.str qc2
  clear hbc hbd hqi
  replace hbd2 := hide hbd2
  replace hBd := hide hBd
  replace hgd := hide hgd
  replace hxd := hide hxd
  replace hXd := hide hXd
  replace hrd := hide hrd
  replace hqd := hide hqd
  replace hqid := hide hqid
  replace hqsome := hide hqsome
  replace hokq := hide hokq
  go_upto_region 10 with fail
  go_cut [108] (fun sv wx => sv = .bool false ∧ wd = wx)
  case first =>
    rcases RQ with _ | ⟨racc, rnx, rrs⟩
    · obtain rfl : okq = false := hokq.out.symm
      have k0 : kq = 11 := hkq'.out.symm
      have k1 : ((kq : Int) == 0) = false := by rw [beq_eq_false_iff_ne]; omega
      have k2 : ((kq : Int) != 11) = false := by rw [bne_eq_false_iff_eq]; omega
      clear k0
      go_wp2_with fail
      go_meet
      exact ⟨rfl, rfl⟩
    · obtain rfl : okq = true := hokq.out.symm
      have k0 : kq = 0 := hkq'.out.symm
      have k1 : ((kq : Int) == 0) = true := by rw [beq_iff_eq]; omega
      obtain ⟨_, _, rfl⟩ := hqsome.out _ _ _ rfl
      have hqe := (hqgood.out k0).1
      clear k0
      simp only [Option.some.injEq, Prod.mk.injEq] at hqe
      obtain ⟨_, _, rfl⟩ := hqe
      go_wp2_with fail
      go_meet
      exact ⟨rfl, rfl⟩
  case rest =>
  obtain ⟨rfl, rfl⟩ := hcut
  clear hst1 hst2
  have hd4' := (hbd2.out.cell (p := ⟨b, off + 4, none⟩) (Nat.lt_of_lt_of_le hbl hBb.out.size)).trans hd4.out
  have hd5' := (hbd2.out.cell (p := ⟨b, off + 5, none⟩) (Nat.lt_of_lt_of_le hbl hBb.out.size)).trans hd5.out
  have hd6' := (hbd2.out.cell (p := ⟨b, off + 6, none⟩) (Nat.lt_of_lt_of_le hbl hBb.out.size)).trans hd6.out
  have hf4 := fun l : Later wd => l.cell hd4'
  have hf5 := fun l : Later wd => l.cell hd5'
  obtain ⟨M, hM⟩ : ∃ M, 256 * v4 = M := ⟨_, rfl⟩
  have u1 : IntKind.i64.wrap (v4 : Int) = (v4 : Int) := wraps62 _ (by omega) (by omega)
  have u2 : 256 * (v4 : Int) = (M : Int) := by omega
  have u3 : IntKind.i64.wrap (M : Int) = (M : Int) := wraps62 _ (by omega) (by omega)
  have u4 : IntKind.i64.wrap (v5 : Int) = (v5 : Int) := wraps62 _ (by omega) (by omega)
  have u5 : (M : Int) + (v5 : Int) = (sz : Int) := by have := hszv.out; omega
  have u6 : IntKind.i64.wrap (sz : Int) = (sz : Int) := wraps62 _ (by omega) (by omega)
  have u7 : (4 : Int) < (n : Int) := by omega
  have u8 : (5 : Int) < (n : Int) := by omega
  replace hM := hide hM
  replace hd4' := hide hd4'
  replace hd5' := hide hd5'
  replace hd6' := hide hd6'
  go_wp2_with fail
  refine wp_region_L (by as_aux_lemma => kernel_rfl) ?_
  refine wpE_seg 0 11 (fuel := 0) (by as_aux_lemma => kernel_rfl) (fun d _ _ _ _ h => by cases d <;> exact h) (by as_aux_lemma => kernel_rfl) (by as_aux_lemma => kernel_rfl) ?_
  simp only [List.drop_zero, List.take_succ_cons, List.take_zero]
  iterate 11 (refine wpQE_step (fun K hK => ?_); go_simp; refine hK _ ?_; clear hK K)
  refine wpQE_nil ?_
  refine wpE_done (by as_aux_lemma => kernel_rfl) (fun we hbe => ?_) 0
  have hBe := hBd.out.trans (hbe.mono hBd.out.size)
  have hge := blk_below hbe hld hgd.out
  have hle := Nat.lt_of_lt_of_le hld hbe.size
  have hxe := hxd.out.on hbe
  have hXe := hXd.out.on hbe
  have hre := hrd.out.on hbe
  have hd6e := (hbe.cell (p := ⟨b, off + 6, none⟩) (Nat.lt_of_lt_of_le hbl hBd.out.size)).trans hd6'.out
  clear hf4 hf5 hbe u1 u2 u3 u4 u5
  have hcg := blk_cell hge
  replace hBe := hide hBe
  replace hge := hide hge
  replace hxe := hide hxe
  replace hXe := hide hXe
  replace hre := hide hre
  by_cases hL : n - 40 < sz
  · obtain rfl : kp = 12 := by rw [← hkp'.out, if_pos hL]
    obtain ⟨rfl, rfl, rfl, rfl, rfl, rfl, rfl, rfl, rfl, rfl, rfl, rfl, rfl, rfl, rfl, rfl⟩ := hbad.out (by omega)
    have u9 : (n : Int) - 40 < (sz : Int) := by omega
    go_wp2_with fail
    refine (same_any 0 0 0 false 0 0 false 0 0 none 0 0 none 0 0 0 [] [] _ (IsX.nil _ _ _) (IsX.nil _ _ _) rfl (by omega)).mono ?_
    rintro e w4 ⟨rfl, hb4⟩
    have hB4 := hBe.out.trans (hb4.mono hBe.out.size)
    clear hcg hb4
    replace hB4 := hide hB4
    go_wp2_with fail
    refine (awake_any _).mono ?_
    rintro e w6 ⟨rfl, hb6⟩
    have hB6 := hB4.out.trans (hb6.mono hB4.out.size)
    clear hb6
    replace hB6 := hide hB6
    go_wp2_with fail
    go_ret
    exact ⟨rfl, hB6.out⟩
  have u9 : ¬ (n : Int) - 40 < (sz : Int) := by omega
  have hf6 := fun l : Later we => l.cell hd6e
  obtain ⟨ms, hms⟩ : ∃ ms, 40 + sz = ms := ⟨_, rfl⟩
  have u10 : 40 + (sz : Int) = (ms : Int) := by omega
  have u11 : IntKind.i64.wrap (ms : Int) = (ms : Int) := wraps62 _ (by omega) (by omega)
  have u12 : (40 : Int) ≤ (ms : Int) := by omega
  have u13 : (ms : Int) ≤ (c : Int) := by omega
  have u14 : ms ≤ n := by omega
  have u15 : 40 ≤ ms := by omega
  have hRP' := hRP.out
  rw [hms] at hRP'
  have hok' := hok.out
  rw [hms] at hok'
  replace hms := hide hms
  replace hRP' := hide hRP'
  replace hok' := hide hok'
  go_wp2_with fail
  clear hcg
  refine wp_region_L (by as_aux_lemma => kernel_rfl) ?_
  refine wpE_seg 0 8 (fuel := 10) (by as_aux_lemma => kernel_rfl) (fun d _ _ _ _ h => by cases d <;> exact h) (by as_aux_lemma => kernel_rfl) (by as_aux_lemma => kernel_rfl) ?_
  simp only [List.drop_succ_cons, List.drop_zero, List.take_succ_cons, List.take_zero]
  iterate 8 (refine wpQE_step (fun K hK => ?_); go_simp; refine hK _ ?_; clear hK K)
  refine wpQE_nil ?_
  clear hf6
  refine wpE_step 8 (fuel := 9) rfl (by as_aux_lemma => kernel_rfl) (fun l K hK => ?_)
  go_simp
  refine (lawChain_any _ (ms - 40) (c - 40) ((xs.take ms).drop 40) v6 _ (((hxe.out.later l).take (m := ms) u14).dropAt (k := 40) (cap := c) hA40 u15 (by omega)) (by omega) (by omega) hv6l RP hRP'.out).mono ?_
  rintro e wf hch
  obtain ⟨PX, pm, pxc, pnx, P2, pn2, pc2, prs, rfl, hpi, hpsome, hbf⟩ := hch.form
  obtain ⟨okp, hokp⟩ : ∃ o, RP.isSome = o := ⟨_, rfl⟩
  rw [hokp]
  refine hK _ _ hbf ?_
  clear hK K hch
  refine wpE_seg 9 9 (fuel := 0) (by as_aux_lemma => kernel_rfl) (fun d _ _ _ _ h => by cases d <;> exact h) (by as_aux_lemma => kernel_rfl) (by as_aux_lemma => kernel_rfl) ?_
  simp only [List.drop_succ_cons, List.drop_zero, List.take_succ_cons, List.take_zero]
  iterate 9 (refine wpQE_step (fun K hK => ?_); go_simp; refine hK _ ?_; clear hK K)
  refine wpQE_nil ?_
  refine wpE_done (by as_aux_lemma => kernel_rfl) (fun wg hbg => ?_) 0
  have hbg2 := l.hb.trans ((hbf.trans (hbg.mono hbf.size)).mono l.hb.size)
  have hBg := hBe.out.trans (hbg2.mono hBe.out.size)
  have hgg := blk_below hbg2 hle hge.out
  have hlg := Nat.lt_of_lt_of_le hle hbg2.size
  have hxg := hxe.out.on hbg2
  have hXg := hXe.out.on hbg2
  have hrg := hre.out.on hbg2
  have hpig := hpi.on hbg
  clear hbf hbg hpi hbg2
  replace hBg := hide hBg
  replace hgg := hide hgg
  replace hxg := hide hxg
  replace hXg := hide hXg
  replace hrg := hide hrg
  replace hpig := hide hpig
  replace hpsome := hide hpsome
  have hcg := blk_cell hgg.out
  rcases RP with _ | ⟨racc, rnx, rrs⟩
  · obtain rfl : okp = false := hokp.symm
    obtain rfl : kp = 11 := by rw [← hkp'.out, if_neg hL]; rfl
    obtain ⟨rfl, rfl, rfl, rfl, rfl, rfl, rfl, rfl, rfl, rfl, rfl, rfl, rfl, rfl, rfl, rfl⟩ := hbad.out (by omega)
    clear hokp
    go_wp2_with fail
    refine (same_any 0 0 0 false 0 0 false 0 0 none 0 0 none 0 0 0 [] [] _ (IsX.nil _ _ _) (IsX.nil _ _ _) rfl (by omega)).mono ?_
    rintro e w4 ⟨rfl, hb4⟩
    have hB4 := hBg.out.trans (hb4.mono hBg.out.size)
    clear hcg hb4
    replace hB4 := hide hB4
    go_wp2_with fail
    refine (awake_any _).mono ?_
    rintro e w6 ⟨rfl, hb6⟩
    have hB6 := hB4.out.trans (hb6.mono hB4.out.size)
    clear hb6
    replace hB6 := hide hB6
    go_wp2_with fail
    go_ret
    exact ⟨rfl, hB6.out⟩
  obtain rfl : okp = true := hokp.symm
  obtain rfl : kp = 0 := by rw [← hkp'.out, if_neg hL]; rfl
  obtain ⟨hge1, rfl, rfl, rfl, rfl, rfl, rfl, rfl, rfl, rfl⟩ := hgood.out rfl
  obtain ⟨rfl, rfl, rfl⟩ := hpsome.out _ _ _ rfl
  simp only [Option.some.injEq, Prod.mk.injEq] at hge1
  obtain ⟨rfl, rfl, rfl⟩ := hge1
  obtain ⟨o1, o2, o3, o4, o5, o6⟩ := hok'.out _ _ _ rfl hL
  clear hokp
  have hml : m = (pes es).length := by rw [pes_length]; exact hXg.out.1.symm
  have o7 : m ≤ 8 := by omega
  have hme : ((m : Int) == ((pes es).length : Int)) = true := by rw [beq_iff_eq, hml]
  have hm4 : n2 ≤ 4096 := by rw [← hrg.out.1]; exact o5
  clear hcg
  have hcl := fun (l : Later wg) (o : Nat) => blk_cell (blk_below l.hb hlg hgg.out) o
  have hs1 := fun l : Later wg => (hrg.out.later l).str c2
  have hs2 := fun l : Later wg => (hpig.out.later l).str pc2
  have hs3 := fun l : Later wg => ((hxg.out.later l).take (m := ms) u14).str c
  replace o1 := hide o1
  replace o4 := hide o4
  replace o6 := hide o6
  replace hml := hide hml
  go_wp2_with fail
  refine wp_region_L (by as_aux_lemma => kernel_rfl) ?_
  refine wpE_seg 0 30 (fuel := 13) (by as_aux_lemma => kernel_rfl) (fun d _ _ _ _ h => by cases d <;> exact h) (by as_aux_lemma => kernel_rfl) (by as_aux_lemma => kernel_rfl) ?_
  simp only [List.drop_succ_cons, List.drop_zero, List.take_succ_cons, List.take_zero]
  iterate 25 (refine wpQE_step (fun K hK => ?_); go_simp; refine hK _ ?_; clear hK K)
  (refine wpQE_step (fun K hK => ?_); go_simp; apply Exists.intro; refine ⟨fun l => ?_, hK _ ?_⟩; (go_at_call 17; refine (lawRight_any cls lab hop true shi slo true dhi dlo X m xc pnx es _ (hXg.out.later l) hmx hxm).mono ?_; rw [o1.out]; rintro e w' ⟨rfl, hb⟩; exact ⟨rfl, hb⟩); clear hK K)
  iterate 4 (refine wpQE_step (fun K hK => ?_); go_simp; refine hK _ ?_; clear hK K)
  refine wpQE_nil ?_
  refine wpE_seg 32 5 (fuel := 8) (by as_aux_lemma => kernel_rfl) (fun d _ _ _ _ h => by cases d <;> exact h) (by as_aux_lemma => kernel_rfl) (by as_aux_lemma => kernel_rfl) ?_
  simp only [List.drop_succ_cons, List.drop_zero, List.take_succ_cons, List.take_zero]
  iterate 5 (refine wpQE_step (fun K hK => ?_); go_simp; refine hK _ ?_; clear hK K)
  refine wpQE_nil ?_
  clear hcl hs1 hs2 hs3
  refine wpE_step 30 (fuel := 7) rfl (by as_aux_lemma => kernel_rfl) (fun l K hK => ?_)
  go_simp
  go_at_call 18
  refine (lawBytes_any cls lab hop true shi slo true dhi dlo X m xc pnx es A2 n2 c2 prs _ (hXg.out.later l) hmx hxm (hrg.out.later l) hn2 hc2 rfl rfl b1 b2 b3 o2 b5 b6 b7 b8 o7 hm4 (fun e he => ⟨(o4.out _ (List.mem_map_of_mem he)).1, (o4.out _ (List.mem_map_of_mem he)).2.1⟩) (fun e he => (o4.out _ (List.mem_map_of_mem he)).2.2)).mono ?_
  rintro e wh ⟨vb, rfl, hown, hbh⟩
  rw [o6.out] at hown
  have hlen : (xs.take ms).length = ms := by rw [List.length_take, hxl.out]; omega
  obtain ⟨Ab, cb, rfl, _, _, hib⟩ := hown.form
  rw [hlen] at hib ⊢
  clear hlen
  refine hK _ _ hbh ?_
  clear hK K hown
  have hs4 := fun l : Later wh => (hib.later l).str cb
  replace hib := hide hib
  refine wpE_seg 31 1 (fuel := 6) (by as_aux_lemma => kernel_rfl) (fun d _ _ _ _ h => by cases d <;> exact h) (by as_aux_lemma => kernel_rfl) (by as_aux_lemma => kernel_rfl) ?_
  simp only [List.drop_succ_cons, List.drop_zero, List.take_succ_cons, List.take_zero]
  iterate 1 (refine wpQE_step (fun K hK => ?_); go_simp; refine hK _ ?_; clear hK K)
  refine wpQE_nil ?_
  clear hs4
  refine wpE_seg 37 6 (fuel := 0) (by as_aux_lemma => kernel_rfl) (fun d _ _ _ _ h => by cases d <;> exact h) (by as_aux_lemma => kernel_rfl) (by as_aux_lemma => kernel_rfl) ?_
  simp only [List.drop_succ_cons, List.drop_zero, List.take_succ_cons, List.take_zero]
  iterate 3 (refine wpQE_step (fun K hK => ?_); go_simp; refine hK _ ?_; clear hK K)
  (refine wpQE_step (fun K hK => ?_); go_simp; apply Exists.intro; refine ⟨fun l => ?_, hK _ ?_⟩; (go_at_call 15; refine (awake_any _).mono ?_; rintro e w' ⟨rfl, hb⟩; exact ⟨rfl, hb⟩); clear hK K)
  iterate 2 (refine wpQE_step (fun K hK => ?_); go_simp; refine hK _ ?_; clear hK K)
  refine wpQE_nil ?_
  refine wpE_done (by as_aux_lemma => kernel_rfl) (fun wi hbi => ?_) 0
  have hBi := hBg.out.trans ((l.hb.trans ((hbh.trans (hbi.mono hbh.size)).mono l.hb.size)).mono hBg.out.size)
  clear hbh hbi
  replace hBi := hide hBi
  go_wp2_with fail
  go_ret
  exact ⟨rfl, hBi.out⟩
theorem parses_walk (A : Option Addr) (n0 c : Nat) (xs0 : List UInt8) (w : World) (hx0 : IsB w w.heap.size A n0 xs0) (hnc : n0 ≤ c) (hcm : c ≤ maxLen) :
    Calls Try.prog 3 #[.slice A n0 c] w fun e w' => e = .returned (.bool true) ∧ Below w.heap.size w w' := by
  obtain ⟨n, hn⟩ : ∃ n, min n0 500 = n := ⟨_, rfl⟩
  have hx : IsB w w.heap.size A n (xs0.take n) := hx0.take (m := n) (by omega)
  by_cases h40 : n < 40
  · exact parses_bad A n0 n c _ w hx hn hnc hcm 2 (.inl ⟨h40, rfl⟩)
  · by_cases hv : ((xs0.take n).getD 0 0).toNat / 16 = 6
    · exact parses_good A n0 n c _ w hx hn hnc hcm (by omega) hv
    · exact parses_bad A n0 n c _ w hx hn hnc hcm 10 (.inr ⟨by omega, hv, rfl⟩)
end Six
end Go.Proofs.Ytdmgbngdpjcliaa
