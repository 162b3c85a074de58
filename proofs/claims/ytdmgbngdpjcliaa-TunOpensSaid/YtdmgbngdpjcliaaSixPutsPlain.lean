/- Plain: what is read of bytes that were put. No condition. -/
import Derived.Test.YtdmgbngdpjcliaaSixAgain
namespace Go.Proofs.Ytdmgbngdpjcliaa
open Go.RowKit Go.ChangeShapes Go.WideShapes Go.ChangeAt Go.Deep
namespace Six
theorem puts6 (cls lab hop shi slo dhi dlo proto nx T : Nat) (es : List (Int × List UInt8)) (ps ms xs : List UInt8) (h1 : cls ≤ 255) (h2 : lab ≤ 1048575) (h3 : hop ≤ 255) (h4 : shi < 18446744073709551616) (h5 : slo < 18446744073709551616) (h6 : dhi < 18446744073709551616) (h7 : dlo < 18446744073709551616)
    (hT : (extB es proto ++ ps).length = T) (hT2 : T ≤ 65535) (hnx : nextP es proto = (nx : Int)) (hnx2 : nx ≤ 255) (hxs : allB6 cls lab hop shi slo dhi dlo proto es ps ++ ms = xs) :
    (xs.getD 0 0).toNat / 16 = 6 ∧ beN xs 4 2 = T ∧ (xs.getD 6 0).toNat = nx ∧ (xs.getD 7 0).toNat = hop ∧ beN xs 0 4 / 1048576 % 256 = cls ∧ beN xs 0 4 % 1048576 = lab ∧ beN xs 8 8 = shi ∧ beN xs 16 8 = slo ∧ beN xs 24 8 = dhi ∧ beN xs 32 8 = dlo ∧
    xs.drop 40 = extB es proto ++ (ps ++ ms) ∧ (xs.take (40 + T)).drop 40 = extB es proto ++ ps ∧ xs.length = 40 + T + ms.length := by
  have hform : xs = hd8 cls lab hop nx T ++ (beB shi 8 ++ (beB slo 8 ++ (beB dhi 8 ++ (beB dlo 8 ++ ((extB es proto ++ ps) ++ ms))))) := by
    rw [← hxs]
    unfold allB6
    rw [hT, hnx, Int.toNat_natCast]
    simp [addrB]
  have hp : ∀ N : Nat, N < 18446744073709551616 → N < 256 ^ 8 := fun N h => h
  have g1 : beN xs 8 8 = shi := by rw [hform]; exact beN_put shi 8 _ _ 8 rfl (hp _ h4)
  have g2 : beN xs 16 8 = slo := by
    rw [hform, ← List.append_assoc]
    exact beN_put slo 8 _ _ 16 (by rw [List.length_append, beB_length, hd8_length]) (hp _ h5)
  have g3 : beN xs 24 8 = dhi := by
    rw [hform, ← List.append_assoc, ← List.append_assoc]
    exact beN_put dhi 8 _ _ 24 (by simp only [List.length_append, beB_length, hd8_length]) (hp _ h6)
  have g4 : beN xs 32 8 = dlo := by
    rw [hform, ← List.append_assoc, ← List.append_assoc, ← List.append_assoc]
    exact beN_put dlo 8 _ _ 32 (by simp only [List.length_append, beB_length, hd8_length]) (hp _ h7)
  obtain ⟨tl, htl⟩ : ∃ tl, beB shi 8 ++ (beB slo 8 ++ (beB dhi 8 ++ (beB dlo 8 ++ ((extB es proto ++ ps) ++ ms)))) = tl := ⟨_, rfl⟩
  have hf2 := hform
  rw [htl] at hf2
  unfold hd8 at hf2
  simp only [List.cons_append, List.nil_append] at hf2
  have e1 : beN xs 0 4 = (((UInt8.ofNat (96 + cls / 16)).toNat * 256 + (UInt8.ofNat (cls % 16 * 16 + lab / 65536)).toNat) * 256 + (UInt8.ofNat (lab / 256)).toNat) * 256 + (UInt8.ofNat lab).toNat := by rw [hf2]; simp only [beN, List.getD_cons_zero, List.getD_cons_succ, Nat.zero_mul, Nat.zero_add]
  have e2 : beN xs 4 2 = (UInt8.ofNat (T / 256)).toNat * 256 + (UInt8.ofNat T).toNat := by rw [hf2]; simp only [beN, List.getD_cons_zero, List.getD_cons_succ, Nat.zero_mul, Nat.zero_add]
  have e3 : (xs.getD 0 0) = UInt8.ofNat (96 + cls / 16) := by rw [hf2]; rfl
  have e4 : (xs.getD 6 0) = UInt8.ofNat nx := by rw [hf2]; rfl
  have e5 : (xs.getD 7 0) = UInt8.ofNat hop := by rw [hf2]; rfl
  simp only [UInt8.toNat_ofNat', Nat.reducePow] at e1 e2
  have hpre : (hd8 cls lab hop nx T ++ (beB shi 8 ++ (beB slo 8 ++ (beB dhi 8 ++ beB dlo 8)))).length = 40 := by simp only [List.length_append, beB_length, hd8_length]
  have hform2 : xs = (hd8 cls lab hop nx T ++ (beB shi 8 ++ (beB slo 8 ++ (beB dhi 8 ++ beB dlo 8)))) ++ ((extB es proto ++ ps) ++ ms) := by rw [hform]; simp
  refine ⟨?_, by omega, ?_, ?_, by omega, by omega, g1, g2, g3, g4, ?_, ?_, ?_⟩
  · rw [e3, UInt8.toNat_ofNat']; omega
  · rw [e4, UInt8.toNat_ofNat']; omega
  · rw [e5, UInt8.toNat_ofNat']; omega
  · rw [hform2, ← hpre, List.drop_left]
    simp
  · rw [hform2, List.take_append, List.take_of_length_le (by rw [hpre]; omega), ← hpre, List.drop_left, Nat.add_sub_cancel_left, List.take_append, List.take_of_length_le (by omega), hT, Nat.sub_self, List.take_zero, List.append_nil]
  · rw [hform2, List.length_append, hpre, List.length_append, hT]
    omega
/-- Which kinds and lengths may be. -/
theorem rightTo_all {es : List (Int × List UInt8)} (h : rightTo es es.length = true) : ∀ e ∈ es, 0 ≤ e.1 ∧ e.1 ≤ 255 ∧ e.2.length ≤ 2047 := by
  intro e he
  obtain ⟨i, hi, rfl⟩ := List.getElem_of_mem he
  have h1 := rightTo_le _ h (k := i + 1) (by omega)
  rw [rightTo_succ _ i _ (List.getElem?_eq_getElem hi)] at h1
  simp only [Bool.and_eq_true] at h1
  have h2 := h1.2.1
  unfold rightExtB isB at h2
  simp only [Bool.and_eq_true, decide_eq_true_eq] at h2
  omega
theorem rightHB_true {cls lab hop : Int} {sv dv : Bool} {proto : Int} {es : List (Int × List UInt8)} (h : rightHB cls lab hop sv dv proto es = true) :
    (0 ≤ cls ∧ cls ≤ 255 ∧ 0 ≤ hop ∧ hop ≤ 255 ∧ 0 ≤ lab ∧ lab ≤ 1048575 ∧ sv = true ∧ dv = true ∧ 0 ≤ proto ∧ proto ≤ 255 ∧ isB proto = false ∧ es.length ≤ 8) ∧ rightTo es es.length = true := by
  unfold rightHB at h
  rw [Bool.and_eq_true, decide_eq_true_eq] at h
  exact h
/-- What was put is parsed, and quoted. -/
theorem puts_parse (cls lab hop shi slo dhi dlo proto : Nat) (es : List (Int × List UInt8)) (ps ms xs : List UInt8) (hr : rightHB cls lab hop true true proto es = true) (h4 : shi < 18446744073709551616) (h5 : slo < 18446744073709551616) (h6 : dhi < 18446744073709551616) (h7 : dlo < 18446744073709551616)
    (hps : ps.length ≤ 4096) (hxs : allB6 cls lab hop shi slo dhi dlo proto es ps ++ ms = xs) :
    parseK xs.length xs = 0 ∧ parseR xs = some (es, proto, ps) ∧ quoteR xs = some (es, proto, ps ++ ms) ∧ quoteK xs.length xs = 0 ∧
    beN xs 0 4 / 1048576 % 256 = cls ∧ beN xs 0 4 % 1048576 = lab ∧ (xs.getD 7 0).toNat = hop ∧ beN xs 8 8 = shi ∧ beN xs 16 8 = slo ∧ beN xs 24 8 = dhi ∧ beN xs 32 8 = dlo := by
  obtain ⟨⟨r1, r2, r3, r4, r5, r6, _, _, r7, r8, r9, r10⟩, hrt⟩ := rightHB_true hr
  have hall := rightTo_all hrt
  obtain ⟨T, hT⟩ : ∃ T, (extB es proto ++ ps).length = T := ⟨_, rfl⟩
  have hT2 : T ≤ 65535 := by
    rw [← hT, List.length_append, extB_length]
    have := sumP_le es (fun e he => (hall e he).2.2)
    omega
  obtain ⟨nx, hnx, hnx2⟩ : ∃ nx : Nat, nextP es proto = (nx : Int) ∧ nx ≤ 255 := by
    rcases es with _ | ⟨e, es⟩
    · exact ⟨proto, rfl, by omega⟩
    · have := hall e (by simp)
      exact ⟨e.1.toNat, by show e.1 = _; omega, by omega⟩
  obtain ⟨p1, p2, p3, p4, p5, p6, p7, p8, p9, p10, p11, p12, p13⟩ := puts6 cls lab hop shi slo dhi dlo proto nx T es ps ms xs (by omega) (by omega) (by omega) h4 h5 h6 h7 hT hT2 hnx hnx2 hxs
  have hback := fun pl => chainF_back (proto : Int) pl (by omega) (by omega) r9 es [] 9 (by simpa using hrt) (by simpa using r10) (.inl rfl) (by omega) rfl
  rw [hnx, Int.toNat_natCast, Int.toNat_natCast] at hback
  simp only [List.nil_append] at hback
  have hR : parseR xs = some (es, proto, ps) := by
    unfold parseR
    rw [p3, p2, p12]
    exact hback ps
  have hQ : quoteR xs = some (es, proto, ps ++ ms) := by
    unfold quoteR
    rw [p3, p11]
    exact hback (ps ++ ms)
  refine ⟨?_, hR, hQ, ?_, p5, p6, p4, p7, p8, p9, p10⟩
  · unfold parseK
    unfold parseR at hR
    rw [if_neg (show ¬ xs.length < 40 by omega), if_neg (show ¬ ((xs.getD 0 0).toNat / 16 ≠ 6) from fun h => h p1), if_neg (by rw [p2]; omega), hR]
    rfl
  · unfold quoteK
    unfold quoteR at hQ
    rw [if_neg (show ¬ xs.length < 40 by omega), if_neg (show ¬ ((xs.getD 0 0).toNat / 16 ≠ 6) from fun h => h p1), hQ]
    rfl
end Six
end Go.Proofs.Ytdmgbngdpjcliaa
