/- Plain laws: what is parsed of a datagram's and of a segment's bytes. Conditions: numbers that may be. -/
import Derived.Test.YtfmmmjaficbchaaQNatFlows6
import Derived.Test.YtfmmmjaficbchaaQNatFlows12
import Derived.Test.YtfmmmjaficbchaaQNatFlows4
import Derived.Test.YtfmmmjaficbchaaQNatFlows11
import Derived.Test.YtfmmmjaficbchaaQNatFlows7
import Derived.Test.YtfmmmjaficbchaaQNatFlows3
import Derived.Test.YtfmmmjaficbchaaQNatFlows10
import Derived.Deep.DeepCutAuto
namespace Go.Proofs.Ytfmmmjaficbchaa
theorem two_split (N : Nat) : beB N 2 = [UInt8.ofNat (N / 256), UInt8.ofNat N] := by simp [beB]
theorem ones_ck (T : Nat) : Sum.ones (T + Udp.ckP (65535 - Sum.ones T)) = 65535 := by
  unfold Udp.ckP
  split
  · rename_i h
    have := Sum.ones_le T
    have h1 : Sum.ones T = 65535 := by omega
    rw [← h1]
    refine Sum.ones_congr (by omega) ?_
    unfold Sum.ones at h1
    split at h1 <;> omega
  · exact Sum.ones_check T
namespace Udp
theorem ckP_le (c : Nat) (h : c ≤ 65535) : ckP c ≤ 65535 ∧ ckP c ≠ 0 := by
  unfold ckP
  split <;> omega
theorem dg_form (s d C : Nat) (xs : List UInt8) : setB (dg0 s d xs) 6 (beB C 2) = beB s 2 ++ (beB d 2 ++ (beB (8 + xs.length) 2 ++ (beB C 2 ++ xs))) := by
  simp [dg0, setB, allB, two_split]
theorem dg0_zero (s d : Nat) (xs : List UInt8) : ((dg0 s d xs).drop 6).take 2 = [0, 0] := by
  simp [dg0, allB, two_split]
theorem dg_parse (bare : Bool) (ps : List UInt8) (s d : Nat) (xs : List UInt8) (he : ps.length % 2 = 0) (hs : s ≤ 65535) (hd : d ≤ 65535) (hl : 8 + xs.length ≤ 65535) :
    parseK bare ps (dgB ps s d xs) = 0 ∧ beN (dgB ps s d xs) 0 2 = s ∧ beN (dgB ps s d xs) 2 2 = d ∧ (dgB ps s d xs).length = 8 + xs.length ∧ (dgB ps s d xs).drop 8 = xs := by
  obtain ⟨C, hC⟩ : ∃ C, ckP (65535 - Sum.ones (Sum.tot false (ps ++ dg0 s d xs))) = C := ⟨_, rfl⟩
  have hC2 := ckP_le (65535 - Sum.ones (Sum.tot false (ps ++ dg0 s d xs))) (by omega)
  rw [hC] at hC2
  have hsum : Sum.ones (Sum.tot false (ps ++ dgB ps s d xs)) = 65535 := by
    unfold dgB
    rw [hC, Sum.tot_set ps (dg0 s d xs) 6 C hC2.1 (by rw [dg0_length]; omega) (dg0_zero s d xs) (by omega), ← hC]
    exact ones_ck _
  have hf : dgB ps s d xs = beB s 2 ++ (beB d 2 ++ (beB (8 + xs.length) 2 ++ (beB C 2 ++ xs))) := by
    unfold dgB
    rw [hC]
    exact dg_form s d C xs
  have hlen : (dgB ps s d xs).length = 8 + xs.length := by rw [hf]; simp [beB_length]; omega
  have e0 : beN (dgB ps s d xs) 0 2 = s := by
    rw [hf]
    exact beN_put s 2 [] _ 0 rfl (by omega)
  have e2 : beN (dgB ps s d xs) 2 2 = d := by
    rw [hf]
    exact beN_put d 2 (beB s 2) _ 2 (beB_length _ _) (by omega)
  have e4 : beN (dgB ps s d xs) 4 2 = 8 + xs.length := by
    rw [hf, ← List.append_assoc]
    exact beN_put (8 + xs.length) 2 (beB s 2 ++ beB d 2) _ 4 (by simp [beB_length]) (by omega)
  have e6 : beN (dgB ps s d xs) 6 2 = C := by
    rw [hf, ← List.append_assoc, ← List.append_assoc]
    exact beN_put C 2 ((beB s 2 ++ beB d 2) ++ beB (8 + xs.length) 2) _ 6 (by simp [beB_length]) (by omega)
  refine ⟨?_, e0, e2, hlen, ?_⟩
  · unfold parseK
    rw [hlen, e4, e6, hsum, if_neg (by omega), if_neg (by simp), if_neg hC2.2, if_pos rfl]
  · rw [hf]
    simp [two_split]
end Udp
namespace Tcp
theorem sg_form (s d fl C : Nat) (xs : List UInt8) : setB (sg0 s d fl xs) 16 (beB C 2) = beB s 2 ++ (beB d 2 ++ ([0, 0, 0, 0, 0, 0, 0, 0, 80, UInt8.ofNat fl, 4, 0] ++ (beB C 2 ++ ([0, 0] ++ xs)))) := by
  simp [sg0, setB, allB, beB]
theorem sg0_zero (s d fl : Nat) (xs : List UInt8) : ((sg0 s d fl xs).drop 16).take 2 = [0, 0] := by
  simp [sg0, allB, beB]
theorem sg_parse (ps : List UInt8) (s d fl : Nat) (xs : List UInt8) (he : ps.length % 2 = 0) (hs : s ≤ 65535) (hd : d ≤ 65535) (hfl : fl ≤ 255) :
    parseK ps (sgB ps s d fl xs) = 0 ∧ beN (sgB ps s d fl xs) 0 2 = s ∧ beN (sgB ps s d fl xs) 2 2 = d ∧ ((sgB ps s d fl xs).getD 13 0).toNat = fl ∧ (sgB ps s d fl xs).length = 20 + xs.length ∧ (sgB ps s d fl xs).drop 20 = xs := by
  obtain ⟨C, hC⟩ : ∃ C, 65535 - Sum.ones (Sum.tot false (ps ++ sg0 s d fl xs)) = C := ⟨_, rfl⟩
  have hC2 : C ≤ 65535 := by omega
  have hsum : Sum.ones (Sum.tot false (ps ++ sgB ps s d fl xs)) = 65535 := by
    unfold sgB
    rw [hC, Sum.tot_set ps (sg0 s d fl xs) 16 C hC2 (by rw [sg0_length]; omega) (sg0_zero s d fl xs) (by omega), ← hC]
    exact Sum.ones_check _
  have hf : sgB ps s d fl xs = beB s 2 ++ (beB d 2 ++ ([0, 0, 0, 0, 0, 0, 0, 0, 80, UInt8.ofNat fl, 4, 0] ++ (beB C 2 ++ ([0, 0] ++ xs)))) := by
    unfold sgB
    rw [hC]
    exact sg_form s d fl C xs
  have hlen : (sgB ps s d fl xs).length = 20 + xs.length := by rw [hf]; simp [beB_length]; omega
  have e0 : beN (sgB ps s d fl xs) 0 2 = s := by
    rw [hf]
    exact beN_put s 2 [] _ 0 rfl (by omega)
  have e2 : beN (sgB ps s d fl xs) 2 2 = d := by
    rw [hf]
    exact beN_put d 2 (beB s 2) _ 2 (beB_length _ _) (by omega)
  have e12 : (sgB ps s d fl xs).getD 12 0 = 80 := by
    rw [hf]
    simp [two_split]
  have e13 : (sgB ps s d fl xs).getD 13 0 = UInt8.ofNat fl := by
    rw [hf]
    simp [two_split]
  refine ⟨?_, e0, e2, ?_, hlen, ?_⟩
  · unfold parseK
    rw [hlen, e12, hsum, if_neg (by omega), if_neg (by simp), if_pos rfl]
  · rw [e13, UInt8.toNat_ofNat']
    omega
  · rw [hf]
    simp [two_split]
end Tcp
end Go.Proofs.Ytfmmmjaficbchaa
/- Plain: what is read of bytes that were put. No condition. -/
namespace Go.Proofs.Ytfmmmjaficbchaa
open Go.RowKit Go.ChangeShapes Go.WideShapes Go.ChangeAt Go.Deep
namespace Six
theorem puts6 (cls lab hop shi slo dhi dlo proto nx T : Nat) (es : List (Int × List UInt8)) (ps ms xs : List UInt8) (h1 : cls ≤ 255) (h2 : lab ≤ 1048575) (h3 : hop ≤ 255) (h4 : shi < 18446744073709551616) (h5 : slo < 18446744073709551616) (h6 : dhi < 18446744073709551616) (h7 : dlo < 18446744073709551616)
    (hT : (extB es proto ++ ps).length = T) (hT2 : T ≤ 65535) (hnx : nextP es proto = (nx : Int)) (hnx2 : nx ≤ 255) (hxs : allB6 cls lab hop shi slo dhi dlo proto es ps ++ ms = xs) :
    (xs.getD 0 0).toNat / 16 = 6 ∧ beN xs 4 2 = T ∧ (xs.getD 6 0).toNat = nx ∧ (xs.getD 7 0).toNat = hop ∧ beN xs 0 4 / 1048576 % 256 = cls ∧ beN xs 0 4 % 1048576 = lab ∧ beN xs 8 8 = shi ∧ beN xs 16 8 = slo ∧ beN xs 24 8 = dhi ∧ beN xs 32 8 = dlo ∧
    xs.drop 40 = extB es proto ++ (ps ++ ms) ∧ (xs.take (40 + T)).drop 40 = extB es proto ++ ps ∧ xs.length = 40 + T + ms.length := by
  have hform : xs = hd8 cls lab hop nx T ++ (beB shi 8 ++ (beB slo 8 ++ (beB dhi 8 ++ (beB dlo 8 ++ ((extB es proto ++ ps) ++ ms))))) := by
    rw [← hxs]
    unfold allB6
    rw [hT, hnx, Int.toNat_natCast]
    simp [addrB]
  have hp : ∀ N : Nat, N < 18446744073709551616 → N < 256 ^ 8 := fun N h => h
  have g1 : beN xs 8 8 = shi := by rw [hform]; exact beN_put shi 8 _ _ 8 rfl (hp _ h4)
  have g2 : beN xs 16 8 = slo := by
    rw [hform, ← List.append_assoc]
    exact beN_put slo 8 _ _ 16 (by rw [List.length_append, beB_length, hd8_length]) (hp _ h5)
  have g3 : beN xs 24 8 = dhi := by
    rw [hform, ← List.append_assoc, ← List.append_assoc]
    exact beN_put dhi 8 _ _ 24 (by simp only [List.length_append, beB_length, hd8_length]) (hp _ h6)
  have g4 : beN xs 32 8 = dlo := by
    rw [hform, ← List.append_assoc, ← List.append_assoc, ← List.append_assoc]
    exact beN_put dlo 8 _ _ 32 (by simp only [List.length_append, beB_length, hd8_length]) (hp _ h7)
  obtain ⟨tl, htl⟩ : ∃ tl, beB shi 8 ++ (beB slo 8 ++ (beB dhi 8 ++ (beB dlo 8 ++ ((extB es proto ++ ps) ++ ms)))) = tl := ⟨_, rfl⟩
  have hf2 := hform
  rw [htl] at hf2
  unfold hd8 at hf2
  simp only [List.cons_append, List.nil_append] at hf2
  have e1 : beN xs 0 4 = (((UInt8.ofNat (96 + cls / 16)).toNat * 256 + (UInt8.ofNat (cls % 16 * 16 + lab / 65536)).toNat) * 256 + (UInt8.ofNat (lab / 256)).toNat) * 256 + (UInt8.ofNat lab).toNat := by rw [hf2]; simp only [beN, List.getD_cons_zero, List.getD_cons_succ, Nat.zero_mul, Nat.zero_add]
  have e2 : beN xs 4 2 = (UInt8.ofNat (T / 256)).toNat * 256 + (UInt8.ofNat T).toNat := by rw [hf2]; simp only [beN, List.getD_cons_zero, List.getD_cons_succ, Nat.zero_mul, Nat.zero_add]
  have e3 : (xs.getD 0 0) = UInt8.ofNat (96 + cls / 16) := by rw [hf2]; rfl
  have e4 : (xs.getD 6 0) = UInt8.ofNat nx := by rw [hf2]; rfl
  have e5 : (xs.getD 7 0) = UInt8.ofNat hop := by rw [hf2]; rfl
  simp only [UInt8.toNat_ofNat', Nat.reducePow] at e1 e2
  have hpre : (hd8 cls lab hop nx T ++ (beB shi 8 ++ (beB slo 8 ++ (beB dhi 8 ++ beB dlo 8)))).length = 40 := by simp only [List.length_append, beB_length, hd8_length]
  have hform2 : xs = (hd8 cls lab hop nx T ++ (beB shi 8 ++ (beB slo 8 ++ (beB dhi 8 ++ beB dlo 8)))) ++ ((extB es proto ++ ps) ++ ms) := by rw [hform]; simp
  refine ⟨?_, by omega, ?_, ?_, by omega, by omega, g1, g2, g3, g4, ?_, ?_, ?_⟩
  · rw [e3, UInt8.toNat_ofNat']; omega
  · rw [e4, UInt8.toNat_ofNat']; omega
  · rw [e5, UInt8.toNat_ofNat']; omega
  · rw [hform2, ← hpre, List.drop_left]
    simp
  · rw [hform2, List.take_append, List.take_of_length_le (by rw [hpre]; omega), ← hpre, List.drop_left, Nat.add_sub_cancel_left, List.take_append, List.take_of_length_le (by omega), hT, Nat.sub_self, List.take_zero, List.append_nil]
  · rw [hform2, List.length_append, hpre, List.length_append, hT]
    omega
/-- Which kinds and lengths may be. -/
theorem rightTo_all {es : List (Int × List UInt8)} (h : rightTo es es.length = true) : ∀ e ∈ es, 0 ≤ e.1 ∧ e.1 ≤ 255 ∧ e.2.length ≤ 2047 := by
  intro e he
  obtain ⟨i, hi, rfl⟩ := List.getElem_of_mem he
  have h1 := rightTo_le _ h (k := i + 1) (by omega)
  rw [rightTo_succ _ i _ (List.getElem?_eq_getElem hi)] at h1
  simp only [Bool.and_eq_true] at h1
  have h2 := h1.2.1
  unfold rightExtB isB at h2
  simp only [Bool.and_eq_true, decide_eq_true_eq] at h2
  omega
theorem rightHB_true {cls lab hop : Int} {sv dv : Bool} {proto : Int} {es : List (Int × List UInt8)} (h : rightHB cls lab hop sv dv proto es = true) :
    (0 ≤ cls ∧ cls ≤ 255 ∧ 0 ≤ hop ∧ hop ≤ 255 ∧ 0 ≤ lab ∧ lab ≤ 1048575 ∧ sv = true ∧ dv = true ∧ 0 ≤ proto ∧ proto ≤ 255 ∧ isB proto = false ∧ es.length ≤ 8) ∧ rightTo es es.length = true := by
  unfold rightHB at h
  rw [Bool.and_eq_true, decide_eq_true_eq] at h
  exact h
/-- What was put is parsed, and quoted. -/
theorem puts_parse (cls lab hop shi slo dhi dlo proto : Nat) (es : List (Int × List UInt8)) (ps ms xs : List UInt8) (hr : rightHB cls lab hop true true proto es = true) (h4 : shi < 18446744073709551616) (h5 : slo < 18446744073709551616) (h6 : dhi < 18446744073709551616) (h7 : dlo < 18446744073709551616)
    (hps : ps.length ≤ 4096) (hxs : allB6 cls lab hop shi slo dhi dlo proto es ps ++ ms = xs) :
    parseK xs.length xs = 0 ∧ parseR xs = some (es, proto, ps) ∧ quoteR xs = some (es, proto, ps ++ ms) ∧ quoteK xs.length xs = 0 ∧
    beN xs 0 4 / 1048576 % 256 = cls ∧ beN xs 0 4 % 1048576 = lab ∧ (xs.getD 7 0).toNat = hop ∧ beN xs 8 8 = shi ∧ beN xs 16 8 = slo ∧ beN xs 24 8 = dhi ∧ beN xs 32 8 = dlo := by
  obtain ⟨⟨r1, r2, r3, r4, r5, r6, _, _, r7, r8, r9, r10⟩, hrt⟩ := rightHB_true hr
  have hall := rightTo_all hrt
  obtain ⟨T, hT⟩ : ∃ T, (extB es proto ++ ps).length = T := ⟨_, rfl⟩
  have hT2 : T ≤ 65535 := by
    rw [← hT, List.length_append, extB_length]
    have := sumP_le es (fun e he => (hall e he).2.2)
    omega
  obtain ⟨nx, hnx, hnx2⟩ : ∃ nx : Nat, nextP es proto = (nx : Int) ∧ nx ≤ 255 := by
    rcases es with _ | ⟨e, es⟩
    · exact ⟨proto, rfl, by omega⟩
    · have := hall e (by simp)
      exact ⟨e.1.toNat, by show e.1 = _; omega, by omega⟩
  obtain ⟨p1, p2, p3, p4, p5, p6, p7, p8, p9, p10, p11, p12, p13⟩ := puts6 cls lab hop shi slo dhi dlo proto nx T es ps ms xs (by omega) (by omega) (by omega) h4 h5 h6 h7 hT hT2 hnx hnx2 hxs
  have hback := fun pl => chainF_back (proto : Int) pl (by omega) (by omega) r9 es [] 9 (by simpa using hrt) (by simpa using r10) (.inl rfl) (by omega) rfl
  rw [hnx, Int.toNat_natCast, Int.toNat_natCast] at hback
  simp only [List.nil_append] at hback
  have hR : parseR xs = some (es, proto, ps) := by
    unfold parseR
    rw [p3, p2, p12]
    exact hback ps
  have hQ : quoteR xs = some (es, proto, ps ++ ms) := by
    unfold quoteR
    rw [p3, p11]
    exact hback (ps ++ ms)
  refine ⟨?_, hR, hQ, ?_, p5, p6, p4, p7, p8, p9, p10⟩
  · unfold parseK
    unfold parseR at hR
    rw [if_neg (show ¬ xs.length < 40 by omega), if_neg (show ¬ ((xs.getD 0 0).toNat / 16 ≠ 6) from fun h => h p1), if_neg (by rw [p2]; omega), hR]
    rfl
  · unfold quoteK
    unfold quoteR at hQ
    rw [if_neg (show ¬ xs.length < 40 by omega), if_neg (show ¬ ((xs.getD 0 0).toNat / 16 ≠ 6) from fun h => h p1), hQ]
    rfl
end Six
end Go.Proofs.Ytfmmmjaficbchaa
/- Plain law: what is parsed of a header's bytes, whatever stands beyond them. Conditions: a header that may be. -/
namespace Go.Proofs.Ytfmmmjaficbchaa
namespace Four
theorem two_back (N : Nat) (h : N < 65536) : (UInt8.ofNat (N / 256)).toNat * 256 + (UInt8.ofNat N).toNat = N := by
  rw [UInt8.toNat_ofNat', UInt8.toNat_ofNat']; omega
theorem four_back (N : Nat) (h : N < 4294967296) : (((UInt8.ofNat (N / 16777216)).toNat * 256 + (UInt8.ofNat (N / 65536)).toNat) * 256 + (UInt8.ofNat (N / 256)).toNat) * 256 + (UInt8.ofNat N).toNat = N := by
  rw [UInt8.toNat_ofNat', UInt8.toNat_ofNat', UInt8.toNat_ofNat', UInt8.toNat_ofNat']; omega
theorem hdB_form (tos id fl ttl proto slo dlo : Nat) (os : List UInt8) (pl : Nat) : ∃ a b : UInt8, hdB tos id fl ttl proto slo dlo os pl =
    UInt8.ofNat (64 + (20 + os.length) / 4) :: UInt8.ofNat tos :: UInt8.ofNat ((20 + os.length + pl) / 256) :: UInt8.ofNat (20 + os.length + pl) :: UInt8.ofNat (id / 256) :: UInt8.ofNat id :: UInt8.ofNat (fl / 256) :: UInt8.ofNat fl :: UInt8.ofNat ttl :: UInt8.ofNat proto :: a :: b ::
    UInt8.ofNat (slo / 16777216) :: UInt8.ofNat (slo / 65536) :: UInt8.ofNat (slo / 256) :: UInt8.ofNat slo :: UInt8.ofNat (dlo / 16777216) :: UInt8.ofNat (dlo / 65536) :: UInt8.ofNat (dlo / 256) :: UInt8.ofNat dlo :: os := by
  obtain ⟨C, hC⟩ : ∃ C, 65535 - Sum.ones (Sum.tot false (hdB0 tos id fl ttl proto slo dlo os pl)) = C := ⟨_, rfl⟩
  refine ⟨UInt8.ofNat (C / 256), UInt8.ofNat C, ?_⟩
  rw [hdB_set _ _ _ _ _ _ _ _ _ _ hC]
  unfold hdB0
  simp only [beB, Nat.pow_zero, Nat.div_one, Nat.pow_one, Nat.reducePow, List.cons_append, List.nil_append, List.set_cons_zero, List.set_cons_succ]
theorem hdB_sum (tos id fl ttl proto slo dlo : Nat) (os : List UInt8) (pl : Nat) : Sum.ones (Sum.tot false (hdB tos id fl ttl proto slo dlo os pl)) = 65535 := by
  unfold hdB
  have h := Sum.tot_set [] (hdB0 tos id fl ttl proto slo dlo os pl) 10 (65535 - Sum.ones (Sum.tot false (hdB0 tos id fl ttl proto slo dlo os pl))) (by omega) (by rw [hdB0_length]; omega) (by simp [hdB0, beB]) (by simp)
  simp only [List.nil_append] at h
  rw [h]
  exact Sum.ones_check _
theorem puts_get (tos id fl ttl proto slo dlo : Nat) (os ps ms : List UInt8) (n m : Nat) (hn : os.length = n) (hm : ps.length = m) (h1 : tos ≤ 255) (h2 : id ≤ 65535) (h3 : fl < 32768) (h4 : ttl ≤ 255) (h5 : proto ≤ 255) (h6 : slo < 4294967296) (h7 : dlo < 4294967296) (h8 : n ≤ 40) (h9 : n % 4 = 0) (h10 : m ≤ 4096)
    (xs : List UInt8) (hxs : (hdB tos id fl ttl proto slo dlo os m ++ ps) ++ ms = xs) :
    (xs.getD 0 0).toNat / 16 = 4 ∧ (xs.getD 0 0).toNat % 16 * 4 = 20 + n ∧ beN xs 2 2 = 20 + n + m ∧ beN xs 6 2 / 32768 = 0 ∧ Sum.ones (Sum.tot false (xs.take (20 + n))) = 65535 ∧
    (xs.getD 1 0).toNat = tos ∧ beN xs 4 2 = id ∧ beN xs 6 2 = fl ∧ (xs.getD 8 0).toNat = ttl ∧ (xs.getD 9 0).toNat = proto ∧ beN xs 12 4 = slo ∧ beN xs 16 4 = dlo ∧ (xs.take (20 + n)).drop 20 = os ∧ (xs.take (20 + n + m)).drop (20 + n) = ps ∧ xs.drop (20 + n) = ps ++ ms := by
  have hl : (hdB tos id fl ttl proto slo dlo os m).length = 20 + n := by rw [hdB_length, hn]
  have e1 : xs.take (20 + n) = hdB tos id fl ttl proto slo dlo os m := by
    rw [← hxs, List.append_assoc, List.take_append_of_le_length (by omega), List.take_of_length_le (by omega)]
  have e2 : xs.drop (20 + n) = ps ++ ms := by
    rw [← hxs, List.append_assoc, ← hl, List.drop_left]
  have e3 : (xs.take (20 + n + m)).drop (20 + n) = ps := by
    rw [List.drop_take, e2, show 20 + n + m - (20 + n) = m by omega, ← hm, List.take_left]
  have e4 := hdB_sum tos id fl ttl proto slo dlo os m
  obtain ⟨a, b, hf⟩ := hdB_form tos id fl ttl proto slo dlo os m
  rw [hf] at hxs e1
  rw [e1, ← hf, e4, hf]
  refine ⟨?_, ?_, ?_, ?_, rfl, ?_, ?_, ?_, ?_, ?_, ?_, ?_, rfl, e3, e2⟩
  all_goals
    rw [← hxs]
    simp only [beN, List.cons_append, List.getD_cons_zero, List.getD_cons_succ, Nat.zero_mul, Nat.zero_add, Nat.add_zero, Nat.reduceAdd]
  · rw [UInt8.toNat_ofNat']; omega
  · rw [UInt8.toNat_ofNat']; omega
  · rw [hn]; exact two_back _ (by omega)
  · rw [two_back _ (by omega)]; omega
  · rw [UInt8.toNat_ofNat']; omega
  · exact two_back _ (by omega)
  · exact two_back _ (by omega)
  · rw [UInt8.toNat_ofNat']; omega
  · rw [UInt8.toNat_ofNat']; omega
  · exact four_back _ h6
  · exact four_back _ h7
theorem fl_parts (df mf : Bool) (frag fl : Nat) (hf : frag ≤ 8191) (h : flI df mf frag = (fl : Int)) : fl < 32768 ∧ decide (fl / 16384 % 2 = 1) = df ∧ decide (fl / 8192 % 2 = 1) = mf ∧ fl % 8192 = frag := by
  unfold flI at h
  rcases df with _ | _ <;> rcases mf with _ | _ <;> simp only [Bool.false_eq_true, if_false, if_true, Int.add_zero] at h <;> (refine ⟨by omega, ?_, ?_, by omega⟩ <;> simp <;> omega)
end Four
end Go.Proofs.Ytfmmmjaficbchaa
/- tun.inner and tun.outer by contract. Conditions: slices of bytes that read as lists, sizes below 2^40. -/
namespace Go.Proofs.Ytfmmmjaficbchaa
open Go.RowKit Go.ChangeShapes Go.WideShapes Go.ChangeAt Go.Deep
namespace Tun
/-- Which protocol's number a packet within another one has; 0: none. -/
def innerP (xs : List UInt8) : Nat := if (xs.getD 0 0).toNat / 16 = 4 then 4 else if (xs.getD 0 0).toNat / 16 = 6 then 41 else 0
/-- Why none. -/
def innerK (n : Nat) (xs : List UInt8) : Nat := if n = 0 then 2 else if (xs.getD 0 0).toNat / 16 = 4 ∨ (xs.getD 0 0).toNat / 16 = 6 then 0 else 10
end Tun
end Go.Proofs.Ytfmmmjaficbchaa
/- tun.Open by contract. Conditions: slices of bytes that read as lists, sizes below 2^40. -/
namespace Go.Proofs.Ytfmmmjaficbchaa
open Go.RowKit Go.ChangeShapes Go.WideShapes Go.ChangeAt Go.Deep
namespace Tun
/-- Why nothing lies in a packet; 0: something does. -/
def openK (K proto m1 : Nat) (rest : List UInt8) : Nat := if K ≠ 0 then K else if proto ≠ 4 ∧ proto ≠ 41 then 14 else if innerK m1 rest ≠ 0 then innerK m1 rest else if innerP rest ≠ proto then 14 else 0
/-- How tun.Open ends. -/
def OpenEnd (K : Nat) (b1 : Bool) (sh sl : Int) (b2 : Bool) (dh dl : Int) (m1 : Nat) (rest : List UInt8) (w w' : World) (e : Ending) : Prop :=
  (K ≠ 0 → e = .returned (.tuple #[.slice none 0 0, addrV false 0 0, addrV false 0 0, .int .i64 (K : Int)])) ∧
  (K = 0 → ∃ A2 c2, e = .returned (.tuple #[.slice A2 m1 c2, addrV b1 sh sl, addrV b2 dh dl, .int .i64 0]) ∧ IsB w' w'.heap.size A2 m1 rest ∧ m1 ≤ c2 ∧ c2 ≤ maxLen) ∧ Below w.heap.size w w'
end Tun
end Go.Proofs.Ytfmmmjaficbchaa
/- The law's same of two headers that are the same; the law's cut; the example of chapter 9. Conditions: slices that read as lists. -/
namespace Go.Proofs.Ytfmmmjaficbchaa
open Go.RowKit Go.ChangeShapes Go.WideShapes Go.ChangeAt Go.Deep
namespace Six
theorem allB6_head (cls lab hop shi slo dhi dlo proto : Nat) (es : List (Int × List UInt8)) (ps : List UInt8) : (allB6 cls lab hop shi slo dhi dlo proto es ps).getD 0 0 = UInt8.ofNat (96 + cls / 16) := rfl
end Six
end Go.Proofs.Ytfmmmjaficbchaa
/- six.Bytes and four.Bytes of plain headers: bytes, or why none. Conditions: slices of bytes that read as lists, at most 4096 bytes. -/
namespace Go.Proofs.Ytfmmmjaficbchaa
open Go.RowKit Go.ChangeShapes Go.WideShapes Go.ChangeAt Go.Deep
namespace Four
set_option maxRecDepth 20000 in
set_option maxHeartbeats 2000000 in
theorem put_no (tos id : Int) (df mf : Bool) (frag ttl proto : Int) (sv : Bool) (shi slo : Int) (dv : Bool) (dhi dlo : Int) (A : Option Addr) (n c : Nat) (P : Option Addr) (m d : Nat) (w : World) (hn : n ≤ maxLen)
    (hr : rightB tos id frag ttl proto sv shi slo dv dhi dlo n = false) :
    Calls Try.prog 69 #[hdV tos id df mf frag ttl proto sv shi slo dv dhi dlo A n c, .slice P m d] w fun e w' => e = .returned (.tuple #[.slice none 0 0, .int .i64 1]) ∧ Below w.heap.size w w' := by
  replace hr := hide hr
  unfold hdV
  go_enter Try.func69, Try.ntmps69
  go_wp2_with fail
  refine (right_any tos id df mf frag ttl proto sv shi slo dv dhi dlo A n c _ hn).mono ?_
  rw [hr.out]
  rintro e w1 ⟨rfl, hb1⟩
  have hw1 := ((Below.refl w.heap.size w).alloc (Nat.le_refl _) (hdC tos id df mf frag ttl proto sv shi slo dv dhi dlo A n c)).trans (hb1.mono (by simp))
  clear hb1
  replace hw1 := hide hw1
  go_wp2_with fail
  go_ret2
  exact ⟨rfl, hw1.out⟩
end Four
namespace Six
set_option maxRecDepth 20000 in
set_option maxHeartbeats 2000000 in
theorem put_no (cls lab hop : Int) (sv : Bool) (shi slo : Int) (dv : Bool) (dhi dlo : Int) (X : Option Addr) (n c : Nat) (proto : Int) (es : List Ext) (P : Option Addr) (m d : Nat) (w : World) (hx : IsX w w.heap.size X n es) (hnc : n ≤ c) (hcm : c ≤ maxLen)
    (hr : rightHB cls lab hop sv dv proto (pes es) = false) :
    Calls Try.prog 68 #[hdV cls lab hop sv shi slo dv dhi dlo X n c proto, .slice P m d] w fun e w' => e = .returned (.tuple #[.slice none 0 0, .int .i64 1]) ∧ Below w.heap.size w w' := by
  have hx1 := hx.alloc (hdC cls lab hop sv shi slo dv dhi dlo X n c proto)
  unfold hdC at hx1
  replace hr := hide hr
  replace hx := hide hx
  replace hx1 := hide hx1
  unfold hdV
  go_enter Try.func68, Try.ntmps68
  go_wp2_with fail
  refine (right_any cls lab hop sv shi slo dv dhi dlo X n c proto es _ hx1.out hnc hcm).mono ?_
  rw [hr.out]
  rintro e w1 ⟨rfl, hb1⟩
  have hw1 := ((Below.refl w.heap.size w).alloc (Nat.le_refl _) (hdC cls lab hop sv shi slo dv dhi dlo X n c proto)).trans (hb1.mono (by simp))
  clear hb1
  replace hw1 := hide hw1
  go_wp2_with fail
  go_ret2
  exact ⟨rfl, hw1.out⟩
end Six
namespace Pkt
/-- How bytes are told: why there are none, or which. -/
def InEnd (K : Nat) (U : List UInt8) (w w' : World) (e : Ending) : Prop :=
  ∃ v, e = .returned (.tuple #[v, .int .i64 (K : Int)]) ∧ (K = 0 → OwnB w' w.heap.size v U) ∧ (K ≠ 0 → v = .slice none 0 0) ∧ Below w.heap.size w w'
theorem InEnd.no {K : Nat} (U : List UInt8) {w w' : World} (h : K ≠ 0) (hb : Below w.heap.size w w') : InEnd K U w w' (.returned (.tuple #[.slice none 0 0, .int .i64 (K : Int)])) := ⟨_, rfl, fun h0 => absurd h0 h, fun _ => rfl, hb⟩
theorem InEnd.yes {U : List UInt8} {w w' : World} {v : Value} (h : OwnB w' w.heap.size v U) (hb : Below w.heap.size w w') : InEnd 0 U w w' (.returned (.tuple #[v, .int .i64 0])) := ⟨_, rfl, fun _ => h, fun h0 => absurd rfl h0, hb⟩
theorem InEnd.from {K : Nat} {U : List UInt8} {w0 w w' : World} {e : Ending} (h : InEnd K U w w' e) (hb : Below w0.heap.size w0 w) : InEnd K U w0 w' e := by
  obtain ⟨v, he, h1, h2, h3⟩ := h
  exact ⟨v, he, fun hk => (h1 hk).weaken hb.size, h2, hb.trans (h3.mono hb.size)⟩
def ttlK (ttl : Int) : Nat := if 0 ≤ ttl ∧ ttl ≤ 255 then 0 else 1
theorem six_put (ttl : Int) (shi slo dhi dlo pr : Nat) (hpr : pr ≤ 255) (hib : Six.isB (pr : Int) = false) (P : Option Addr) (m d : Nat) (ps : List UInt8) (w : World) (hp : IsB w w.heap.size P m ps) (hmd : m ≤ d) (hdm : d ≤ maxLen) (hm : m ≤ 4096)
    (h4 : shi < 18446744073709551616) (h5 : slo < 18446744073709551616) (h6 : dhi < 18446744073709551616) (h7 : dlo < 18446744073709551616) :
    Calls Try.prog 68 #[Six.hdV 0 0 ttl true shi slo true dhi dlo none 0 0 pr, .slice P m d] w fun e w' => InEnd (ttlK ttl) (Six.allB6 0 0 ttl.toNat shi slo dhi dlo pr [] ps) w w' e := by
  by_cases h : 0 ≤ ttl ∧ ttl ≤ 255
  · have hk : ttlK ttl = 0 := by unfold ttlK; rw [if_pos h]
    have hr : Six.rightHB (0 : Nat) (0 : Nat) (ttl.toNat : Nat) true true pr (Six.pes []) = true := by
      rw [Six.rightHB_yes ⟨by omega, by omega, by omega, by omega, by omega, by omega, rfl, rfl, by omega, by omega, hib, by simp [Six.pes]⟩]
      rfl
    have := Six.bytes_any 0 0 ttl.toNat true shi slo true dhi dlo none 0 0 pr [] P m d ps w (Six.IsX.nil _ _ _) (Nat.le_refl _) (by unfold maxLen; omega) hp hmd hdm rfl rfl (by omega) (by omega) (by omega) hpr h4 h5 h6 h7 (by omega) hm (by simp) (by simp) hr
    rw [show ((ttl.toNat : Nat) : Int) = ttl by omega] at this
    refine this.mono ?_
    rintro e w' ⟨v, rfl, h1, h2⟩
    rw [hk]
    exact .yes h1 h2
  · have hk : ttlK ttl = 1 := by unfold ttlK; rw [if_neg h]
    refine (Six.put_no 0 0 ttl true shi slo true dhi dlo none 0 0 pr [] P m d w (Six.IsX.nil _ _ _) (Nat.le_refl _) (by unfold maxLen; omega) (Six.rightHB_no (fun hh => h ⟨hh.2.2.1, hh.2.2.2.1⟩))).mono ?_
    rintro e w' ⟨rfl, h2⟩
    rw [hk]
    exact .no _ (by omega) h2
def fourK (ttl shi slo dhi dlo : Int) : Nat := if 0 ≤ ttl ∧ ttl ≤ 255 ∧ Four.okA false shi slo = true ∧ Four.okA false dhi dlo = true then 0 else 1
theorem okA_four {hi lo : Nat} (h : Four.okA false hi lo = true) : hi = 0 ∧ lo < 4294967296 := by
  simp [Four.okA] at h
  omega
theorem four_put (ttl : Int) (shi slo dhi dlo pr : Nat) (hpr : pr ≤ 255) (P : Option Addr) (m d : Nat) (ps : List UInt8) (w : World) (hp : IsB w w.heap.size P m ps) (hm : m ≤ 4096) :
    Calls Try.prog 69 #[Four.hdV 0 0 false false 0 ttl pr false shi slo false dhi dlo none 0 0, .slice P m d] w fun e w' => InEnd (fourK ttl shi slo dhi dlo) (Four.hdB 0 0 0 ttl.toNat pr slo dlo [] m ++ ps) w w' e := by
  by_cases h : 0 ≤ ttl ∧ ttl ≤ 255 ∧ Four.okA false shi slo = true ∧ Four.okA false dhi dlo = true
  · have hk : fourK ttl shi slo dhi dlo = 0 := by unfold fourK; rw [if_pos h]
    obtain ⟨h1, h2, h3, h4⟩ := h
    obtain ⟨rfl, h5⟩ := okA_four h3
    obtain ⟨rfl, h6⟩ := okA_four h4
    have := Four.bytes_yes 0 0 false false 0 ttl.toNat pr slo dlo 0 rfl none 0 0 [] P m d ps w (by omega) (by omega) (by omega) (by omega) hpr h5 h6 (by omega) (by omega) (IsB.nil _ _ _) hp (by omega)
    rw [show ((ttl.toNat : Nat) : Int) = ttl by omega] at this
    refine this.mono ?_
    rintro e w' ⟨v, rfl, h1, h2⟩
    rw [hk]
    exact .yes h1 h2
  · have hk : fourK ttl shi slo dhi dlo = 1 := by unfold fourK; rw [if_neg h]
    refine (Four.put_no 0 0 false false 0 ttl pr false shi slo false dhi dlo none 0 0 P m d w (by unfold maxLen; omega) ?_).mono ?_
    · unfold Four.rightB
      rw [decide_eq_false_iff_not]
      rintro ⟨_, _, a, b, _, _, _, _, _, _, _, _, c, d, _⟩
      exact h ⟨a, b, c, d⟩
    rintro e w' ⟨rfl, h2⟩
    rw [hk]
    exact .no _ (by omega) h2
end Pkt
end Go.Proofs.Ytfmmmjaficbchaa
/- pkt.wrap, by contract, over the function literal of pkt.Datagram, and over that of pkt.Segment. Conditions: what the literal makes is known, at most 4096 bytes. -/
namespace Go.Proofs.Ytfmmmjaficbchaa
open Go.RowKit Go.ChangeShapes Go.WideShapes Go.ChangeAt Go.Deep
namespace Pkt
set_option maxRecDepth 20000 in
set_option maxHeartbeats 8000000 in
theorem wrapD_six (pr : Nat) (hpr : pr ≤ 255) (hib : Six.isB (pr : Int) = false) (shi slo dhi dlo : Nat) (sp dp ttl : Int) (ca cb : Addr) (sz : Nat) (hsz : sz ≤ 65535) (K1 : Nat) (U : List UInt8) (hU : U.length ≤ 4096) (w : World)
    (h4 : shi < 18446744073709551616) (h5 : slo < 18446744073709551616) (h6 : dhi < 18446744073709551616) (h7 : dlo < 18446744073709551616)
    (hin : ∀ (P : Option Addr) (m d : Nat) (w' : World), Below w.heap.size w w' → IsB w' w'.heap.size P m (Six.pseudoB shi slo dhi dlo sz pr) → m ≤ maxLen → Calls Try.prog 41 #[.slice P m d, .pointer (some ca), .pointer (some cb)] w' fun e w'' => InEnd K1 U w' w'' e) :
    Calls Try.prog 40 #[.agg #[.int .i64 (pr : Int), .bool true, .int .u64 (shi : Int), .int .u64 (slo : Int), .bool true, .int .u64 (dhi : Int), .int .u64 (dlo : Int), .int .i64 sp, .int .i64 dp], .int .i64 ttl, .func (.func 41) #[] #[.pointer (some ca), .pointer (some cb)], .int .i64 (sz : Int)] w fun e w' =>
      InEnd (if K1 = 0 then ttlK ttl else K1) (Six.allB6 0 0 ttl.toNat shi slo dhi dlo pr [] U) w w' e := by
  have hbox := blk_new w 32 #[.int .i64 (pr : Int), .bool true, .int .u64 (shi : Int), .int .u64 (slo : Int), .bool true, .int .u64 (dhi : Int), .int .u64 (dlo : Int), .int .i64 sp, .int .i64 dp]
  replace hin := hide hin
  replace hbox := hide hbox
  go_enter Try.func40, Try.ntmps40
  go_wp2_with fail
  refine (Six.pseudo_any true shi slo true dhi dlo pr sz pr sz (by omega) (by rw [IntKind.wrap_u64]; omega) _ h4 h5 h6 h7 (by omega)).mono ?_
  rintro e w2 ⟨v, rfl, hown, hb2⟩
  obtain ⟨A2, c2, rfl, hc2, hm2, hi2⟩ := hown.form
  clear hown
  have hbw2 : Below w.heap.size w w2 := ((Below.refl _ _).alloc (Nat.le_refl _) _).trans (hb2.mono (by simp))
  have hz2 := hb2.size
  simp only [World.size_alloc] at hz2
  have hbox2 := blk_below hb2 (by simp) hbox.out
  have hcell2 := blk_cell hbox2
  have hin2 := hin.out A2 _ c2 w2 hbw2 hi2 (by omega)
  clear hi2 hc2 hm2 hb2
  replace hbw2 := hide hbw2
  replace hbox2 := hide hbox2
  replace hin2 := hide hin2
  go_wp2_with fail
  go_at_call 41
  refine hin2.out.mono ?_
  rintro e w3 ⟨v3, rfl, hy, hn, hb3⟩
  have hB3 := hbw2.out.trans (hb3.mono hbw2.out.size)
  have hbox3 := blk_below hb3 (by omega) hbox2.out
  have hcell3 := blk_cell hbox3
  clear hcell2
  by_cases hk : K1 = 0
  · subst hk
    obtain ⟨A3, c3, rfl, hc3, hm3, hi3⟩ := (hy rfl).form
    clear hy hn
    have hput := six_put ttl shi slo dhi dlo pr hpr hib A3 U.length c3 U _ hi3 hc3 hm3 hU h4 h5 h6 h7
    replace hput := hide hput
    replace hi3 := hide hi3
    replace hB3 := hide hB3
    replace hbox3 := hide hbox3
    replace hb3 := hide hb3
    replace hin2 := hide hin2
    go_wp2_with fail
    unfold Six.hdV at hput
    refine hput.out.mono ?_
    rintro e w4 h4
    have h5 := h4.from hB3.out
    obtain ⟨v4, rfl, h6, h7, h8⟩ := h5
    clear h4
    replace h6 := hide h6
    replace h7 := hide h7
    replace h8 := hide h8
    go_wp2_with fail
    go_ret2
    exact ⟨v4, rfl, h6.out, h7.out, h8.out⟩
  · obtain rfl := hn hk
    have hK : ((K1 : Int) == 0) = false := by rw [beq_eq_false_iff_ne]; omega
    clear hy hn
    replace hB3 := hide hB3
    replace hbox3 := hide hbox3
    replace hb3 := hide hb3
    replace hin2 := hide hin2
    replace hk := hide hk
    go_wp2_with fail
    go_ret2
    exact .no _ hk.out hB3.out
set_option maxRecDepth 20000 in
set_option maxHeartbeats 8000000 in
theorem wrapD_four (pr : Nat) (hpr : pr ≤ 255) (_hib : Six.isB (pr : Int) = false) (shi slo dhi dlo : Nat) (sp dp ttl : Int) (ca cb : Addr) (sz : Nat) (hsz : sz ≤ 65535) (K1 : Nat) (U : List UInt8) (hU : U.length ≤ 4096) (w : World)
    (_h4 : shi < 18446744073709551616) (h5 : slo < 18446744073709551616) (_h6 : dhi < 18446744073709551616) (h7 : dlo < 18446744073709551616)
    (hin : ∀ (P : Option Addr) (m d : Nat) (w' : World), Below w.heap.size w w' → IsB w' w'.heap.size P m (((beB slo 4 ++ beB dlo 4) ++ [0, UInt8.ofNat pr]) ++ beB sz 2) → m ≤ maxLen → Calls Try.prog 41 #[.slice P m d, .pointer (some ca), .pointer (some cb)] w' fun e w'' => InEnd K1 U w' w'' e) :
    Calls Try.prog 40 #[.agg #[.int .i64 (pr : Int), .bool false, .int .u64 (shi : Int), .int .u64 (slo : Int), .bool false, .int .u64 (dhi : Int), .int .u64 (dlo : Int), .int .i64 sp, .int .i64 dp], .int .i64 ttl, .func (.func 41) #[] #[.pointer (some ca), .pointer (some cb)], .int .i64 (sz : Int)] w fun e w' =>
      InEnd (if K1 = 0 then fourK ttl shi slo dhi dlo else K1) (Four.hdB 0 0 0 ttl.toNat pr slo dlo [] U.length ++ U) w w' e := by
  have hbox := blk_new w 32 #[.int .i64 (pr : Int), .bool false, .int .u64 (shi : Int), .int .u64 (slo : Int), .bool false, .int .u64 (dhi : Int), .int .u64 (dlo : Int), .int .i64 sp, .int .i64 dp]
  replace hin := hide hin
  replace hbox := hide hbox
  go_enter Try.func40, Try.ntmps40
  go_wp2_with fail
  refine (Four.pseudo_any false shi slo false dhi dlo pr sz pr sz (by omega) (by rw [IntKind.wrap_u64]; omega) _ h5 h7 (by omega)).mono ?_
  rintro e w2 ⟨v, rfl, hown, hb2⟩
  obtain ⟨A2, c2, rfl, hc2, hm2, hi2⟩ := hown.form
  clear hown
  have hbw2 : Below w.heap.size w w2 := ((Below.refl _ _).alloc (Nat.le_refl _) _).trans (hb2.mono (by simp))
  have hz2 := hb2.size
  simp only [World.size_alloc] at hz2
  have hbox2 := blk_below hb2 (by simp) hbox.out
  have hcell2 := blk_cell hbox2
  have hin2 := hin.out A2 _ c2 w2 hbw2 hi2 (by omega)
  clear hi2 hc2 hm2 hb2
  replace hbw2 := hide hbw2
  replace hbox2 := hide hbox2
  replace hin2 := hide hin2
  go_wp2_with fail
  go_at_call 41
  refine hin2.out.mono ?_
  rintro e w3 ⟨v3, rfl, hy, hn, hb3⟩
  have hB3 := hbw2.out.trans (hb3.mono hbw2.out.size)
  have hbox3 := blk_below hb3 (by omega) hbox2.out
  have hcell3 := blk_cell hbox3
  clear hcell2
  by_cases hk : K1 = 0
  · subst hk
    obtain ⟨A3, c3, rfl, hc3, hm3, hi3⟩ := (hy rfl).form
    clear hy hn
    have hput := four_put ttl shi slo dhi dlo pr hpr A3 U.length c3 U _ hi3 hU
    replace hput := hide hput
    replace hi3 := hide hi3
    replace hB3 := hide hB3
    replace hbox3 := hide hbox3
    replace hb3 := hide hb3
    replace hin2 := hide hin2
    go_wp2_with fail
    unfold Four.hdV at hput
    refine hput.out.mono ?_
    rintro e w4 h4
    have h5 := h4.from hB3.out
    obtain ⟨v4, rfl, h6, h7, h8⟩ := h5
    clear h4
    replace h6 := hide h6
    replace h7 := hide h7
    replace h8 := hide h8
    go_wp2_with fail
    go_ret2
    exact ⟨v4, rfl, h6.out, h7.out, h8.out⟩
  · obtain rfl := hn hk
    have hK : ((K1 : Int) == 0) = false := by rw [beq_eq_false_iff_ne]; omega
    clear hy hn
    replace hB3 := hide hB3
    replace hbox3 := hide hbox3
    replace hb3 := hide hb3
    replace hin2 := hide hin2
    replace hk := hide hk
    go_wp2_with fail
    go_ret2
    exact .no _ hk.out hB3.out
set_option maxRecDepth 20000 in
set_option maxHeartbeats 8000000 in
theorem wrapS_six (pr : Nat) (hpr : pr ≤ 255) (hib : Six.isB (pr : Int) = false) (shi slo dhi dlo : Nat) (sp dp ttl : Int) (ca cb cc : Addr) (sz : Nat) (hsz : sz ≤ 65535) (K1 : Nat) (U : List UInt8) (hU : U.length ≤ 4096) (w : World)
    (h4 : shi < 18446744073709551616) (h5 : slo < 18446744073709551616) (h6 : dhi < 18446744073709551616) (h7 : dlo < 18446744073709551616)
    (hin : ∀ (P : Option Addr) (m d : Nat) (w' : World), Below w.heap.size w w' → IsB w' w'.heap.size P m (Six.pseudoB shi slo dhi dlo sz pr) → m ≤ maxLen → Calls Try.prog 43 #[.slice P m d, .pointer (some ca), .pointer (some cb), .pointer (some cc)] w' fun e w'' => InEnd K1 U w' w'' e) :
    Calls Try.prog 40 #[.agg #[.int .i64 (pr : Int), .bool true, .int .u64 (shi : Int), .int .u64 (slo : Int), .bool true, .int .u64 (dhi : Int), .int .u64 (dlo : Int), .int .i64 sp, .int .i64 dp], .int .i64 ttl, .func (.func 43) #[] #[.pointer (some ca), .pointer (some cb), .pointer (some cc)], .int .i64 (sz : Int)] w fun e w' =>
      InEnd (if K1 = 0 then ttlK ttl else K1) (Six.allB6 0 0 ttl.toNat shi slo dhi dlo pr [] U) w w' e := by
  have hbox := blk_new w 32 #[.int .i64 (pr : Int), .bool true, .int .u64 (shi : Int), .int .u64 (slo : Int), .bool true, .int .u64 (dhi : Int), .int .u64 (dlo : Int), .int .i64 sp, .int .i64 dp]
  replace hin := hide hin
  replace hbox := hide hbox
  go_enter Try.func40, Try.ntmps40
  go_wp2_with fail
  refine (Six.pseudo_any true shi slo true dhi dlo pr sz pr sz (by omega) (by rw [IntKind.wrap_u64]; omega) _ h4 h5 h6 h7 (by omega)).mono ?_
  rintro e w2 ⟨v, rfl, hown, hb2⟩
  obtain ⟨A2, c2, rfl, hc2, hm2, hi2⟩ := hown.form
  clear hown
  have hbw2 : Below w.heap.size w w2 := ((Below.refl _ _).alloc (Nat.le_refl _) _).trans (hb2.mono (by simp))
  have hz2 := hb2.size
  simp only [World.size_alloc] at hz2
  have hbox2 := blk_below hb2 (by simp) hbox.out
  have hcell2 := blk_cell hbox2
  have hin2 := hin.out A2 _ c2 w2 hbw2 hi2 (by omega)
  clear hi2 hc2 hm2 hb2
  replace hbw2 := hide hbw2
  replace hbox2 := hide hbox2
  replace hin2 := hide hin2
  go_wp2_with fail
  go_at_call 43
  refine hin2.out.mono ?_
  rintro e w3 ⟨v3, rfl, hy, hn, hb3⟩
  have hB3 := hbw2.out.trans (hb3.mono hbw2.out.size)
  have hbox3 := blk_below hb3 (by omega) hbox2.out
  have hcell3 := blk_cell hbox3
  clear hcell2
  by_cases hk : K1 = 0
  · subst hk
    obtain ⟨A3, c3, rfl, hc3, hm3, hi3⟩ := (hy rfl).form
    clear hy hn
    have hput := six_put ttl shi slo dhi dlo pr hpr hib A3 U.length c3 U _ hi3 hc3 hm3 hU h4 h5 h6 h7
    replace hput := hide hput
    replace hi3 := hide hi3
    replace hB3 := hide hB3
    replace hbox3 := hide hbox3
    replace hb3 := hide hb3
    replace hin2 := hide hin2
    go_wp2_with fail
    unfold Six.hdV at hput
    refine hput.out.mono ?_
    rintro e w4 h4
    have h5 := h4.from hB3.out
    obtain ⟨v4, rfl, h6, h7, h8⟩ := h5
    clear h4
    replace h6 := hide h6
    replace h7 := hide h7
    replace h8 := hide h8
    go_wp2_with fail
    go_ret2
    exact ⟨v4, rfl, h6.out, h7.out, h8.out⟩
  · obtain rfl := hn hk
    have hK : ((K1 : Int) == 0) = false := by rw [beq_eq_false_iff_ne]; omega
    clear hy hn
    replace hB3 := hide hB3
    replace hbox3 := hide hbox3
    replace hb3 := hide hb3
    replace hin2 := hide hin2
    replace hk := hide hk
    go_wp2_with fail
    go_ret2
    exact .no _ hk.out hB3.out
set_option maxRecDepth 20000 in
set_option maxHeartbeats 8000000 in
theorem wrapS_four (pr : Nat) (hpr : pr ≤ 255) (_hib : Six.isB (pr : Int) = false) (shi slo dhi dlo : Nat) (sp dp ttl : Int) (ca cb cc : Addr) (sz : Nat) (hsz : sz ≤ 65535) (K1 : Nat) (U : List UInt8) (hU : U.length ≤ 4096) (w : World)
    (_h4 : shi < 18446744073709551616) (h5 : slo < 18446744073709551616) (_h6 : dhi < 18446744073709551616) (h7 : dlo < 18446744073709551616)
    (hin : ∀ (P : Option Addr) (m d : Nat) (w' : World), Below w.heap.size w w' → IsB w' w'.heap.size P m (((beB slo 4 ++ beB dlo 4) ++ [0, UInt8.ofNat pr]) ++ beB sz 2) → m ≤ maxLen → Calls Try.prog 43 #[.slice P m d, .pointer (some ca), .pointer (some cb), .pointer (some cc)] w' fun e w'' => InEnd K1 U w' w'' e) :
    Calls Try.prog 40 #[.agg #[.int .i64 (pr : Int), .bool false, .int .u64 (shi : Int), .int .u64 (slo : Int), .bool false, .int .u64 (dhi : Int), .int .u64 (dlo : Int), .int .i64 sp, .int .i64 dp], .int .i64 ttl, .func (.func 43) #[] #[.pointer (some ca), .pointer (some cb), .pointer (some cc)], .int .i64 (sz : Int)] w fun e w' =>
      InEnd (if K1 = 0 then fourK ttl shi slo dhi dlo else K1) (Four.hdB 0 0 0 ttl.toNat pr slo dlo [] U.length ++ U) w w' e := by
  have hbox := blk_new w 32 #[.int .i64 (pr : Int), .bool false, .int .u64 (shi : Int), .int .u64 (slo : Int), .bool false, .int .u64 (dhi : Int), .int .u64 (dlo : Int), .int .i64 sp, .int .i64 dp]
  replace hin := hide hin
  replace hbox := hide hbox
  go_enter Try.func40, Try.ntmps40
  go_wp2_with fail
  refine (Four.pseudo_any false shi slo false dhi dlo pr sz pr sz (by omega) (by rw [IntKind.wrap_u64]; omega) _ h5 h7 (by omega)).mono ?_
  rintro e w2 ⟨v, rfl, hown, hb2⟩
  obtain ⟨A2, c2, rfl, hc2, hm2, hi2⟩ := hown.form
  clear hown
  have hbw2 : Below w.heap.size w w2 := ((Below.refl _ _).alloc (Nat.le_refl _) _).trans (hb2.mono (by simp))
  have hz2 := hb2.size
  simp only [World.size_alloc] at hz2
  have hbox2 := blk_below hb2 (by simp) hbox.out
  have hcell2 := blk_cell hbox2
  have hin2 := hin.out A2 _ c2 w2 hbw2 hi2 (by omega)
  clear hi2 hc2 hm2 hb2
  replace hbw2 := hide hbw2
  replace hbox2 := hide hbox2
  replace hin2 := hide hin2
  go_wp2_with fail
  go_at_call 43
  refine hin2.out.mono ?_
  rintro e w3 ⟨v3, rfl, hy, hn, hb3⟩
  have hB3 := hbw2.out.trans (hb3.mono hbw2.out.size)
  have hbox3 := blk_below hb3 (by omega) hbox2.out
  have hcell3 := blk_cell hbox3
  clear hcell2
  by_cases hk : K1 = 0
  · subst hk
    obtain ⟨A3, c3, rfl, hc3, hm3, hi3⟩ := (hy rfl).form
    clear hy hn
    have hput := four_put ttl shi slo dhi dlo pr hpr A3 U.length c3 U _ hi3 hU
    replace hput := hide hput
    replace hi3 := hide hi3
    replace hB3 := hide hB3
    replace hbox3 := hide hbox3
    replace hb3 := hide hb3
    replace hin2 := hide hin2
    go_wp2_with fail
    unfold Four.hdV at hput
    refine hput.out.mono ?_
    rintro e w4 h4
    have h5 := h4.from hB3.out
    obtain ⟨v4, rfl, h6, h7, h8⟩ := h5
    clear h4
    replace h6 := hide h6
    replace h7 := hide h7
    replace h8 := hide h8
    go_wp2_with fail
    go_ret2
    exact ⟨v4, rfl, h6.out, h7.out, h8.out⟩
  · obtain rfl := hn hk
    have hK : ((K1 : Int) == 0) = false := by rw [beq_eq_false_iff_ne]; omega
    clear hy hn
    replace hB3 := hide hB3
    replace hbox3 := hide hbox3
    replace hb3 := hide hb3
    replace hin2 := hide hin2
    replace hk := hide hk
    go_wp2_with fail
    go_ret2
    exact .no _ hk.out hB3.out
end Pkt
end Go.Proofs.Ytfmmmjaficbchaa
