/- What four.Parse and six.Parse make of bytes that are packets, in their own numbers. Conditions: sizes below 2^40. -/
import Derived.Test.YtdmgbngdpjcliaaQPktBig13
import Derived.Test.YtdmgbngdpjcliaaQPktBig8
import Derived.Test.YtdmgbngdpjcliaaQPktBig11
import Derived.Test.YtdmgbngdpjcliaaQPktBig7
import Derived.Test.YtdmgbngdpjcliaaQPktBig4
import Derived.Deep.DeepCutAuto
import Derived.Great.Walk
namespace Go.Proofs.Ytdmgbngdpjcliaa
open Go.RowKit Go.ChangeShapes Go.WideShapes Go.ChangeAt Go.Deep
namespace Tun
theorem four_ok (n : Nat) (xs : List UInt8) (hnm : n ≤ 1099511627776) (h1 : 20 ≤ n) (h2 : (xs.getD 0 0).toNat / 16 = 4) (s : Nat) (hs : (xs.getD 0 0).toNat % 16 * 4 = s) (h3 : 20 ≤ s) (h4 : s ≤ n) (h5 : beN xs 6 2 / 32768 = 0) (h6 : s ≤ beN xs 2 2) (h7 : beN xs 2 2 ≤ n) (h8 : Sum.ones (Sum.tot false (xs.take s)) = 65535) :
    FourIs n xs 0 (xs.getD 1 0).toNat (beN xs 4 2) (decide (beN xs 6 2 / 16384 % 2 = 1)) (decide (beN xs 6 2 / 8192 % 2 = 1)) (beN xs 6 2 % 8192) (xs.getD 8 0).toNat (xs.getD 9 0).toNat (beN xs 12 4) (beN xs 16 4) (s - 20) (beN xs 2 2 - s) ((xs.take (beN xs 2 2)).drop s) := by
  intro A c W hx hc _
  refine (Four.parse_ok A n c xs W hx hc hnm (by omega) h2 s hs (by omega) (by omega) h5 (by omega) (by omega) h8).mono ?_
  rintro e w' ⟨A1, c1, A2, c2, rfl, _, _, _, i4, i5⟩
  obtain ⟨_, r1, r2, r3⟩ := i4.reads
  exact ⟨A1, c1, A2, c2, rfl, r3, r1, r2, i5⟩
theorem six_ok (n : Nat) (xs : List UInt8) (hnm : n ≤ 1099511627776) (acc : List (Int × List UInt8)) (nx : Nat) (rest : List UInt8) (hk : Six.parseK n xs = 0) (hR : Six.parseR xs = some (acc, nx, rest)) :
    SixIs n xs 0 (beN xs 0 4 / 1048576 % 256 : Nat) (beN xs 0 4 % 1048576 : Nat) (xs.getD 7 0).toNat true (beN xs 8 8) (beN xs 16 8) true (beN xs 24 8) (beN xs 32 8) acc nx rest.length rest := by
  intro A c W hx hc hcm
  refine (Six.parse_any A n c xs W hx hc hcm hnm _ _ _ _ _ _ _ rfl rfl rfl rfl rfl rfl rfl).mono ?_
  rintro e w' ⟨_, h2, h3⟩
  obtain ⟨acc', next', rest', hR', X, xc, es, A2, c2, he, hes, hX, hr⟩ := h2 hk
  rw [hR] at hR'
  cases hR'
  obtain ⟨hx1, hx2, hx3⟩ := hX.isX
  obtain ⟨_, r1, r2, r3⟩ := hr.reads
  exact ⟨X, es.length, xc, A2, c2, es, he, hes, hx1, hx2, hx3, r3, r1, r2, h3⟩
end Tun
end Go.Proofs.Ytdmgbngdpjcliaa
/- Plain: what is read of bytes that were put. No condition. -/
namespace Go.Proofs.Ytdmgbngdpjcliaa
open Go.RowKit Go.ChangeShapes Go.WideShapes Go.ChangeAt Go.Deep
namespace Six
theorem puts6 (cls lab hop shi slo dhi dlo proto nx T : Nat) (es : List (Int × List UInt8)) (ps ms xs : List UInt8) (h1 : cls ≤ 255) (h2 : lab ≤ 1048575) (h3 : hop ≤ 255) (h4 : shi < 18446744073709551616) (h5 : slo < 18446744073709551616) (h6 : dhi < 18446744073709551616) (h7 : dlo < 18446744073709551616)
    (hT : (extB es proto ++ ps).length = T) (hT2 : T ≤ 65535) (hnx : nextP es proto = (nx : Int)) (hnx2 : nx ≤ 255) (hxs : allB6 cls lab hop shi slo dhi dlo proto es ps ++ ms = xs) :
    (xs.getD 0 0).toNat / 16 = 6 ∧ beN xs 4 2 = T ∧ (xs.getD 6 0).toNat = nx ∧ (xs.getD 7 0).toNat = hop ∧ beN xs 0 4 / 1048576 % 256 = cls ∧ beN xs 0 4 % 1048576 = lab ∧ beN xs 8 8 = shi ∧ beN xs 16 8 = slo ∧ beN xs 24 8 = dhi ∧ beN xs 32 8 = dlo ∧
    xs.drop 40 = extB es proto ++ (ps ++ ms) ∧ (xs.take (40 + T)).drop 40 = extB es proto ++ ps ∧ xs.length = 40 + T + ms.length := by
  have hform : xs = hd8 cls lab hop nx T ++ (beB shi 8 ++ (beB slo 8 ++ (beB dhi 8 ++ (beB dlo 8 ++ ((extB es proto ++ ps) ++ ms))))) := by
    rw [← hxs]
    unfold allB6
    rw [hT, hnx, Int.toNat_natCast]
    simp [addrB]
  have hp : ∀ N : Nat, N < 18446744073709551616 → N < 256 ^ 8 := fun N h => h
  have g1 : beN xs 8 8 = shi := by rw [hform]; exact beN_put shi 8 _ _ 8 rfl (hp _ h4)
  have g2 : beN xs 16 8 = slo := by
    rw [hform, ← List.append_assoc]
    exact beN_put slo 8 _ _ 16 (by rw [List.length_append, beB_length, hd8_length]) (hp _ h5)
  have g3 : beN xs 24 8 = dhi := by
    rw [hform, ← List.append_assoc, ← List.append_assoc]
    exact beN_put dhi 8 _ _ 24 (by simp only [List.length_append, beB_length, hd8_length]) (hp _ h6)
  have g4 : beN xs 32 8 = dlo := by
    rw [hform, ← List.append_assoc, ← List.append_assoc, ← List.append_assoc]
    exact beN_put dlo 8 _ _ 32 (by simp only [List.length_append, beB_length, hd8_length]) (hp _ h7)
  obtain ⟨tl, htl⟩ : ∃ tl, beB shi 8 ++ (beB slo 8 ++ (beB dhi 8 ++ (beB dlo 8 ++ ((extB es proto ++ ps) ++ ms)))) = tl := ⟨_, rfl⟩
  have hf2 := hform
  rw [htl] at hf2
  unfold hd8 at hf2
  simp only [List.cons_append, List.nil_append] at hf2
  have e1 : beN xs 0 4 = (((UInt8.ofNat (96 + cls / 16)).toNat * 256 + (UInt8.ofNat (cls % 16 * 16 + lab / 65536)).toNat) * 256 + (UInt8.ofNat (lab / 256)).toNat) * 256 + (UInt8.ofNat lab).toNat := by rw [hf2]; simp only [beN, List.getD_cons_zero, List.getD_cons_succ, Nat.zero_mul, Nat.zero_add]
  have e2 : beN xs 4 2 = (UInt8.ofNat (T / 256)).toNat * 256 + (UInt8.ofNat T).toNat := by rw [hf2]; simp only [beN, List.getD_cons_zero, List.getD_cons_succ, Nat.zero_mul, Nat.zero_add]
  have e3 : (xs.getD 0 0) = UInt8.ofNat (96 + cls / 16) := by rw [hf2]; rfl
  have e4 : (xs.getD 6 0) = UInt8.ofNat nx := by rw [hf2]; rfl
  have e5 : (xs.getD 7 0) = UInt8.ofNat hop := by rw [hf2]; rfl
  simp only [UInt8.toNat_ofNat', Nat.reducePow] at e1 e2
  have hpre : (hd8 cls lab hop nx T ++ (beB shi 8 ++ (beB slo 8 ++ (beB dhi 8 ++ beB dlo 8)))).length = 40 := by simp only [List.length_append, beB_length, hd8_length]
  have hform2 : xs = (hd8 cls lab hop nx T ++ (beB shi 8 ++ (beB slo 8 ++ (beB dhi 8 ++ beB dlo 8)))) ++ ((extB es proto ++ ps) ++ ms) := by rw [hform]; simp
  refine ⟨?_, by omega, ?_, ?_, by omega, by omega, g1, g2, g3, g4, ?_, ?_, ?_⟩
  · rw [e3, UInt8.toNat_ofNat']; omega
  · rw [e4, UInt8.toNat_ofNat']; omega
  · rw [e5, UInt8.toNat_ofNat']; omega
  · rw [hform2, ← hpre, List.drop_left]
    simp
  · rw [hform2, List.take_append, List.take_of_length_le (by rw [hpre]; omega), ← hpre, List.drop_left, Nat.add_sub_cancel_left, List.take_append, List.take_of_length_le (by omega), hT, Nat.sub_self, List.take_zero, List.append_nil]
  · rw [hform2, List.length_append, hpre, List.length_append, hT]
    omega
/-- Which kinds and lengths may be. -/
theorem rightTo_all {es : List (Int × List UInt8)} (h : rightTo es es.length = true) : ∀ e ∈ es, 0 ≤ e.1 ∧ e.1 ≤ 255 ∧ e.2.length ≤ 2047 := by
  intro e he
  obtain ⟨i, hi, rfl⟩ := List.getElem_of_mem he
  have h1 := rightTo_le _ h (k := i + 1) (by omega)
  rw [rightTo_succ _ i _ (List.getElem?_eq_getElem hi)] at h1
  simp only [Bool.and_eq_true] at h1
  have h2 := h1.2.1
  unfold rightExtB isB at h2
  simp only [Bool.and_eq_true, decide_eq_true_eq] at h2
  omega
theorem rightHB_true {cls lab hop : Int} {sv dv : Bool} {proto : Int} {es : List (Int × List UInt8)} (h : rightHB cls lab hop sv dv proto es = true) :
    (0 ≤ cls ∧ cls ≤ 255 ∧ 0 ≤ hop ∧ hop ≤ 255 ∧ 0 ≤ lab ∧ lab ≤ 1048575 ∧ sv = true ∧ dv = true ∧ 0 ≤ proto ∧ proto ≤ 255 ∧ isB proto = false ∧ es.length ≤ 8) ∧ rightTo es es.length = true := by
  unfold rightHB at h
  rw [Bool.and_eq_true, decide_eq_true_eq] at h
  exact h
/-- What was put is parsed, and quoted. -/
theorem puts_parse (cls lab hop shi slo dhi dlo proto : Nat) (es : List (Int × List UInt8)) (ps ms xs : List UInt8) (hr : rightHB cls lab hop true true proto es = true) (h4 : shi < 18446744073709551616) (h5 : slo < 18446744073709551616) (h6 : dhi < 18446744073709551616) (h7 : dlo < 18446744073709551616)
    (hps : ps.length ≤ 4096) (hxs : allB6 cls lab hop shi slo dhi dlo proto es ps ++ ms = xs) :
    parseK xs.length xs = 0 ∧ parseR xs = some (es, proto, ps) ∧ quoteR xs = some (es, proto, ps ++ ms) ∧ quoteK xs.length xs = 0 ∧
    beN xs 0 4 / 1048576 % 256 = cls ∧ beN xs 0 4 % 1048576 = lab ∧ (xs.getD 7 0).toNat = hop ∧ beN xs 8 8 = shi ∧ beN xs 16 8 = slo ∧ beN xs 24 8 = dhi ∧ beN xs 32 8 = dlo := by
  obtain ⟨⟨r1, r2, r3, r4, r5, r6, _, _, r7, r8, r9, r10⟩, hrt⟩ := rightHB_true hr
  have hall := rightTo_all hrt
  obtain ⟨T, hT⟩ : ∃ T, (extB es proto ++ ps).length = T := ⟨_, rfl⟩
  have hT2 : T ≤ 65535 := by
    rw [← hT, List.length_append, extB_length]
    have := sumP_le es (fun e he => (hall e he).2.2)
    omega
  obtain ⟨nx, hnx, hnx2⟩ : ∃ nx : Nat, nextP es proto = (nx : Int) ∧ nx ≤ 255 := by
    rcases es with _ | ⟨e, es⟩
    · exact ⟨proto, rfl, by omega⟩
    · have := hall e (by simp)
      exact ⟨e.1.toNat, by show e.1 = _; omega, by omega⟩
  obtain ⟨p1, p2, p3, p4, p5, p6, p7, p8, p9, p10, p11, p12, p13⟩ := puts6 cls lab hop shi slo dhi dlo proto nx T es ps ms xs (by omega) (by omega) (by omega) h4 h5 h6 h7 hT hT2 hnx hnx2 hxs
  have hback := fun pl => chainF_back (proto : Int) pl (by omega) (by omega) r9 es [] 9 (by simpa using hrt) (by simpa using r10) (.inl rfl) (by omega) rfl
  rw [hnx, Int.toNat_natCast, Int.toNat_natCast] at hback
  simp only [List.nil_append] at hback
  have hR : parseR xs = some (es, proto, ps) := by
    unfold parseR
    rw [p3, p2, p12]
    exact hback ps
  have hQ : quoteR xs = some (es, proto, ps ++ ms) := by
    unfold quoteR
    rw [p3, p11]
    exact hback (ps ++ ms)
  refine ⟨?_, hR, hQ, ?_, p5, p6, p4, p7, p8, p9, p10⟩
  · unfold parseK
    unfold parseR at hR
    rw [if_neg (show ¬ xs.length < 40 by omega), if_neg (show ¬ ((xs.getD 0 0).toNat / 16 ≠ 6) from fun h => h p1), if_neg (by rw [p2]; omega), hR]
    rfl
  · unfold quoteK
    unfold quoteR at hQ
    rw [if_neg (show ¬ xs.length < 40 by omega), if_neg (show ¬ ((xs.getD 0 0).toNat / 16 ≠ 6) from fun h => h p1), hQ]
    rfl
end Six
end Go.Proofs.Ytdmgbngdpjcliaa
/- Plain law: what is parsed of a header's bytes, whatever stands beyond them. Conditions: a header that may be. -/
namespace Go.Proofs.Ytdmgbngdpjcliaa
namespace Four
theorem two_back (N : Nat) (h : N < 65536) : (UInt8.ofNat (N / 256)).toNat * 256 + (UInt8.ofNat N).toNat = N := by
  rw [UInt8.toNat_ofNat', UInt8.toNat_ofNat']; omega
theorem four_back (N : Nat) (h : N < 4294967296) : (((UInt8.ofNat (N / 16777216)).toNat * 256 + (UInt8.ofNat (N / 65536)).toNat) * 256 + (UInt8.ofNat (N / 256)).toNat) * 256 + (UInt8.ofNat N).toNat = N := by
  rw [UInt8.toNat_ofNat', UInt8.toNat_ofNat', UInt8.toNat_ofNat', UInt8.toNat_ofNat']; omega
theorem hdB_form (tos id fl ttl proto slo dlo : Nat) (os : List UInt8) (pl : Nat) : ∃ a b : UInt8, hdB tos id fl ttl proto slo dlo os pl =
    UInt8.ofNat (64 + (20 + os.length) / 4) :: UInt8.ofNat tos :: UInt8.ofNat ((20 + os.length + pl) / 256) :: UInt8.ofNat (20 + os.length + pl) :: UInt8.ofNat (id / 256) :: UInt8.ofNat id :: UInt8.ofNat (fl / 256) :: UInt8.ofNat fl :: UInt8.ofNat ttl :: UInt8.ofNat proto :: a :: b ::
    UInt8.ofNat (slo / 16777216) :: UInt8.ofNat (slo / 65536) :: UInt8.ofNat (slo / 256) :: UInt8.ofNat slo :: UInt8.ofNat (dlo / 16777216) :: UInt8.ofNat (dlo / 65536) :: UInt8.ofNat (dlo / 256) :: UInt8.ofNat dlo :: os := by
  obtain ⟨C, hC⟩ : ∃ C, 65535 - Sum.ones (Sum.tot false (hdB0 tos id fl ttl proto slo dlo os pl)) = C := ⟨_, rfl⟩
  refine ⟨UInt8.ofNat (C / 256), UInt8.ofNat C, ?_⟩
  rw [hdB_set _ _ _ _ _ _ _ _ _ _ hC]
  unfold hdB0
  simp only [beB, Nat.pow_zero, Nat.div_one, Nat.pow_one, Nat.reducePow, List.cons_append, List.nil_append, List.set_cons_zero, List.set_cons_succ]
theorem hdB_sum (tos id fl ttl proto slo dlo : Nat) (os : List UInt8) (pl : Nat) : Sum.ones (Sum.tot false (hdB tos id fl ttl proto slo dlo os pl)) = 65535 := by
  unfold hdB
  have h := Sum.tot_set [] (hdB0 tos id fl ttl proto slo dlo os pl) 10 (65535 - Sum.ones (Sum.tot false (hdB0 tos id fl ttl proto slo dlo os pl))) (by omega) (by rw [hdB0_length]; omega) (by simp [hdB0, beB]) (by simp)
  simp only [List.nil_append] at h
  rw [h]
  exact Sum.ones_check _
theorem puts_get (tos id fl ttl proto slo dlo : Nat) (os ps ms : List UInt8) (n m : Nat) (hn : os.length = n) (hm : ps.length = m) (h1 : tos ≤ 255) (h2 : id ≤ 65535) (h3 : fl < 32768) (h4 : ttl ≤ 255) (h5 : proto ≤ 255) (h6 : slo < 4294967296) (h7 : dlo < 4294967296) (h8 : n ≤ 40) (h9 : n % 4 = 0) (h10 : m ≤ 4096)
    (xs : List UInt8) (hxs : (hdB tos id fl ttl proto slo dlo os m ++ ps) ++ ms = xs) :
    (xs.getD 0 0).toNat / 16 = 4 ∧ (xs.getD 0 0).toNat % 16 * 4 = 20 + n ∧ beN xs 2 2 = 20 + n + m ∧ beN xs 6 2 / 32768 = 0 ∧ Sum.ones (Sum.tot false (xs.take (20 + n))) = 65535 ∧
    (xs.getD 1 0).toNat = tos ∧ beN xs 4 2 = id ∧ beN xs 6 2 = fl ∧ (xs.getD 8 0).toNat = ttl ∧ (xs.getD 9 0).toNat = proto ∧ beN xs 12 4 = slo ∧ beN xs 16 4 = dlo ∧ (xs.take (20 + n)).drop 20 = os ∧ (xs.take (20 + n + m)).drop (20 + n) = ps ∧ xs.drop (20 + n) = ps ++ ms := by
  have hl : (hdB tos id fl ttl proto slo dlo os m).length = 20 + n := by rw [hdB_length, hn]
  have e1 : xs.take (20 + n) = hdB tos id fl ttl proto slo dlo os m := by
    rw [← hxs, List.append_assoc, List.take_append_of_le_length (by omega), List.take_of_length_le (by omega)]
  have e2 : xs.drop (20 + n) = ps ++ ms := by
    rw [← hxs, List.append_assoc, ← hl, List.drop_left]
  have e3 : (xs.take (20 + n + m)).drop (20 + n) = ps := by
    rw [List.drop_take, e2, show 20 + n + m - (20 + n) = m by omega, ← hm, List.take_left]
  have e4 := hdB_sum tos id fl ttl proto slo dlo os m
  obtain ⟨a, b, hf⟩ := hdB_form tos id fl ttl proto slo dlo os m
  rw [hf] at hxs e1
  rw [e1, ← hf, e4, hf]
  refine ⟨?_, ?_, ?_, ?_, rfl, ?_, ?_, ?_, ?_, ?_, ?_, ?_, rfl, e3, e2⟩
  all_goals
    rw [← hxs]
    simp only [beN, List.cons_append, List.getD_cons_zero, List.getD_cons_succ, Nat.zero_mul, Nat.zero_add, Nat.add_zero, Nat.reduceAdd]
  · rw [UInt8.toNat_ofNat']; omega
  · rw [UInt8.toNat_ofNat']; omega
  · rw [hn]; exact two_back _ (by omega)
  · rw [two_back _ (by omega)]; omega
  · rw [UInt8.toNat_ofNat']; omega
  · exact two_back _ (by omega)
  · exact two_back _ (by omega)
  · rw [UInt8.toNat_ofNat']; omega
  · rw [UInt8.toNat_ofNat']; omega
  · exact four_back _ h6
  · exact four_back _ h7
theorem fl_parts (df mf : Bool) (frag fl : Nat) (hf : frag ≤ 8191) (h : flI df mf frag = (fl : Int)) : fl < 32768 ∧ decide (fl / 16384 % 2 = 1) = df ∧ decide (fl / 8192 % 2 = 1) = mf ∧ fl % 8192 = frag := by
  unfold flI at h
  rcases df with _ | _ <;> rcases mf with _ | _ <;> simp only [Bool.false_eq_true, if_false, if_true, Int.add_zero] at h <;> (refine ⟨by omega, ?_, ?_, by omega⟩ <;> simp <;> omega)
end Four
end Go.Proofs.Ytdmgbngdpjcliaa
/- A struct that a call hands back is kept in a new variable. No condition. -/
namespace Go.Proofs.Ytdmgbngdpjcliaa
open Go.RowKit Go.ChangeShapes Go.WideShapes Go.ChangeAt Go.Deep
section
variable {P : Program} {ops : Array Oper} {rest : List Oper} {a : Act} {w : World} {Q : Exit → Act → World → Prop}
/-- A new variable of a struct's type, and a whole struct stored into it. -/
theorem wpl_new {oa os : Oper} (hga : oa.guard = none) (hgs : os.guard = none) (T : TypeId) (zs : Array Value)
    (hal : ∀ (ρ : Operand → Value) (w : World), (execOp ρ oa).run P w = .ok (.value (.pointer (some ⟨w.heap.size, 0, none⟩))) (w.alloc (.cells zs T)))
    (d : Nat) (hd : oa.dst = some d) (y : Operand) (ho : os.op = .store T (.tmp d) y) (vs : Array Value) (hy : ∀ w : World, (a.put (some d) (.pointer (some ⟨w.heap.size, 0, none⟩))).eval y = .agg vs)
    (hdd : ∀ w : World, (a.put (some d) (.pointer (some ⟨w.heap.size, 0, none⟩))).eval (.tmp d) = .pointer (some ⟨w.heap.size, 0, none⟩))
    (hn : vs.size = zs.size) (hi : (P.info? T).map (·.size) = some vs.size) (h1 : vs.all (·.oneCell') = true)
    (h : ∀ w', w'.heap[w.heap.size]? = some (.cells vs T (0, 0)) → Below w.heap.size w w' → w.heap.size < w'.heap.size → wpList P ops Q rest ((a.put (some d) (.pointer (some ⟨w.heap.size, 0, none⟩))).put os.dst undef) w') : wpList P ops Q (oa :: os :: rest) a w := by
  refine Go.Great.wpList_runTo hga (some d) hd _ _ (hal _ _) ?_
  have hb := blk_new w T zs
  refine wpl_st hgs T (.tmp d) y ho w.heap.size 0 (hdd w) vs (hy w) hb (by omega) hi h1 fun w' h2 h3 => ?_
  rw [putA_whole _ _ hn.symm] at h2
  have hs := h3.size
  simp only [World.size_alloc] at hs
  exact h w' h2 (((Below.refl _ _).alloc (Nat.le_refl _) _).trans (below_grown h3 (by simp) (by omega))) (by omega)
end
namespace Pkt
theorem alloc_pk (o : Oper) (h : o.op = .alloc 58) (ρ : Operand → Value) (w : World) : (execOp ρ o).run Try.prog w = .ok (.value (.pointer (some ⟨w.heap.size, 0, none⟩))) (w.alloc (.cells pkZ 58)) := by
  obtain ⟨d, op, t, ps, af, g⟩ := o
  dsimp only at h
  subst h
  kernel_rfl
theorem End2.letter {K : Nat} {y : Array Value} {w w' : World} {e : Ending} (h : End2 K y w w' e) (hy : K = 0 → y.size = 23 ∧ y.all (·.oneCell') = true) :
    ∃ z, e = .returned (.tuple #[.agg z, .int .i64 (K : Int)]) ∧ z.size = 23 ∧ z.all (·.oneCell') = true ∧ (if K = 0 then y else pkZ) = z ∧ Below w.heap.size w w' := by
  refine ⟨_, h.1, ?_, ?_, rfl, h.2⟩
  · split
    · exact (hy (by assumption)).1
    · exact pkZ_size
  · split
    · exact (hy (by assumption)).2
    · exact pkZ_one
end Pkt
end Go.Proofs.Ytdmgbngdpjcliaa
/- six.Bytes and four.Bytes of plain headers: bytes, or why none. Conditions: slices of bytes that read as lists, at most 4096 bytes. -/
namespace Go.Proofs.Ytdmgbngdpjcliaa
open Go.RowKit Go.ChangeShapes Go.WideShapes Go.ChangeAt Go.Deep
namespace Four
set_option maxRecDepth 20000 in
set_option maxHeartbeats 2000000 in
theorem put_no (tos id : Int) (df mf : Bool) (frag ttl proto : Int) (sv : Bool) (shi slo : Int) (dv : Bool) (dhi dlo : Int) (A : Option Addr) (n c : Nat) (P : Option Addr) (m d : Nat) (w : World) (hn : n ≤ maxLen)
    (hr : rightB tos id frag ttl proto sv shi slo dv dhi dlo n = false) :
    Calls Try.prog 47 #[hdV tos id df mf frag ttl proto sv shi slo dv dhi dlo A n c, .slice P m d] w fun e w' => e = .returned (.tuple #[.slice none 0 0, .int .i64 1]) ∧ Below w.heap.size w w' := by
  replace hr := hide hr
  unfold hdV
  go_enter Try.func47, Try.ntmps47
  go_wp2_with fail
  refine (right_any tos id df mf frag ttl proto sv shi slo dv dhi dlo A n c _ hn).mono ?_
  rw [hr.out]
  rintro e w1 ⟨rfl, hb1⟩
  have hw1 := ((Below.refl w.heap.size w).alloc (Nat.le_refl _) (hdC tos id df mf frag ttl proto sv shi slo dv dhi dlo A n c)).trans (hb1.mono (by simp))
  clear hb1
  replace hw1 := hide hw1
  go_wp2_with fail
  go_ret2
  exact ⟨rfl, hw1.out⟩
end Four
namespace Six
set_option maxRecDepth 20000 in
set_option maxHeartbeats 2000000 in
theorem put_no (cls lab hop : Int) (sv : Bool) (shi slo : Int) (dv : Bool) (dhi dlo : Int) (X : Option Addr) (n c : Nat) (proto : Int) (es : List Ext) (P : Option Addr) (m d : Nat) (w : World) (hx : IsX w w.heap.size X n es) (hnc : n ≤ c) (hcm : c ≤ maxLen)
    (hr : rightHB cls lab hop sv dv proto (pes es) = false) :
    Calls Try.prog 41 #[hdV cls lab hop sv shi slo dv dhi dlo X n c proto, .slice P m d] w fun e w' => e = .returned (.tuple #[.slice none 0 0, .int .i64 1]) ∧ Below w.heap.size w w' := by
  have hx1 := hx.alloc (hdC cls lab hop sv shi slo dv dhi dlo X n c proto)
  unfold hdC at hx1
  replace hr := hide hr
  replace hx := hide hx
  replace hx1 := hide hx1
  unfold hdV
  go_enter Try.func41, Try.ntmps41
  go_wp2_with fail
  refine (right_any cls lab hop sv shi slo dv dhi dlo X n c proto es _ hx1.out hnc hcm).mono ?_
  rw [hr.out]
  rintro e w1 ⟨rfl, hb1⟩
  have hw1 := ((Below.refl w.heap.size w).alloc (Nat.le_refl _) (hdC cls lab hop sv shi slo dv dhi dlo X n c proto)).trans (hb1.mono (by simp))
  clear hb1
  replace hw1 := hide hw1
  go_wp2_with fail
  go_ret2
  exact ⟨rfl, hw1.out⟩
end Six
namespace Pkt
/-- How bytes are told: why there are none, or which. -/
def InEnd (K : Nat) (U : List UInt8) (w w' : World) (e : Ending) : Prop :=
  ∃ v, e = .returned (.tuple #[v, .int .i64 (K : Int)]) ∧ (K = 0 → OwnB w' w.heap.size v U) ∧ (K ≠ 0 → v = .slice none 0 0) ∧ Below w.heap.size w w'
theorem InEnd.no {K : Nat} (U : List UInt8) {w w' : World} (h : K ≠ 0) (hb : Below w.heap.size w w') : InEnd K U w w' (.returned (.tuple #[.slice none 0 0, .int .i64 (K : Int)])) := ⟨_, rfl, fun h0 => absurd h0 h, fun _ => rfl, hb⟩
theorem InEnd.yes {U : List UInt8} {w w' : World} {v : Value} (h : OwnB w' w.heap.size v U) (hb : Below w.heap.size w w') : InEnd 0 U w w' (.returned (.tuple #[v, .int .i64 0])) := ⟨_, rfl, fun _ => h, fun h0 => absurd rfl h0, hb⟩
theorem InEnd.from {K : Nat} {U : List UInt8} {w0 w w' : World} {e : Ending} (h : InEnd K U w w' e) (hb : Below w0.heap.size w0 w) : InEnd K U w0 w' e := by
  obtain ⟨v, he, h1, h2, h3⟩ := h
  exact ⟨v, he, fun hk => (h1 hk).weaken hb.size, h2, hb.trans (h3.mono hb.size)⟩
def ttlK (ttl : Int) : Nat := if 0 ≤ ttl ∧ ttl ≤ 255 then 0 else 1
theorem six_put (ttl : Int) (shi slo dhi dlo pr : Nat) (hpr : pr ≤ 255) (hib : Six.isB (pr : Int) = false) (P : Option Addr) (m d : Nat) (ps : List UInt8) (w : World) (hp : IsB w w.heap.size P m ps) (hmd : m ≤ d) (hdm : d ≤ maxLen) (hm : m ≤ 4096)
    (h4 : shi < 18446744073709551616) (h5 : slo < 18446744073709551616) (h6 : dhi < 18446744073709551616) (h7 : dlo < 18446744073709551616) :
    Calls Try.prog 41 #[Six.hdV 0 0 ttl true shi slo true dhi dlo none 0 0 pr, .slice P m d] w fun e w' => InEnd (ttlK ttl) (Six.allB6 0 0 ttl.toNat shi slo dhi dlo pr [] ps) w w' e := by
  by_cases h : 0 ≤ ttl ∧ ttl ≤ 255
  · have hk : ttlK ttl = 0 := by unfold ttlK; rw [if_pos h]
    have hr : Six.rightHB (0 : Nat) (0 : Nat) (ttl.toNat : Nat) true true pr (Six.pes []) = true := by
      rw [Six.rightHB_yes ⟨by omega, by omega, by omega, by omega, by omega, by omega, rfl, rfl, by omega, by omega, hib, by simp [Six.pes]⟩]
      rfl
    have := Six.bytes_any 0 0 ttl.toNat true shi slo true dhi dlo none 0 0 pr [] P m d ps w (Six.IsX.nil _ _ _) (Nat.le_refl _) (by unfold maxLen; omega) hp hmd hdm rfl rfl (by omega) (by omega) (by omega) hpr h4 h5 h6 h7 (by omega) hm (by simp) (by simp) hr
    rw [show ((ttl.toNat : Nat) : Int) = ttl by omega] at this
    refine this.mono ?_
    rintro e w' ⟨v, rfl, h1, h2⟩
    rw [hk]
    exact .yes h1 h2
  · have hk : ttlK ttl = 1 := by unfold ttlK; rw [if_neg h]
    refine (Six.put_no 0 0 ttl true shi slo true dhi dlo none 0 0 pr [] P m d w (Six.IsX.nil _ _ _) (Nat.le_refl _) (by unfold maxLen; omega) (Six.rightHB_no (fun hh => h ⟨hh.2.2.1, hh.2.2.2.1⟩))).mono ?_
    rintro e w' ⟨rfl, h2⟩
    rw [hk]
    exact .no _ (by omega) h2
def fourK (ttl shi slo dhi dlo : Int) : Nat := if 0 ≤ ttl ∧ ttl ≤ 255 ∧ Four.okA false shi slo = true ∧ Four.okA false dhi dlo = true then 0 else 1
theorem okA_four {hi lo : Nat} (h : Four.okA false hi lo = true) : hi = 0 ∧ lo < 4294967296 := by
  simp [Four.okA] at h
  omega
theorem four_put (ttl : Int) (shi slo dhi dlo pr : Nat) (hpr : pr ≤ 255) (P : Option Addr) (m d : Nat) (ps : List UInt8) (w : World) (hp : IsB w w.heap.size P m ps) (hm : m ≤ 4096) :
    Calls Try.prog 47 #[Four.hdV 0 0 false false 0 ttl pr false shi slo false dhi dlo none 0 0, .slice P m d] w fun e w' => InEnd (fourK ttl shi slo dhi dlo) (Four.hdB 0 0 0 ttl.toNat pr slo dlo [] m ++ ps) w w' e := by
  by_cases h : 0 ≤ ttl ∧ ttl ≤ 255 ∧ Four.okA false shi slo = true ∧ Four.okA false dhi dlo = true
  · have hk : fourK ttl shi slo dhi dlo = 0 := by unfold fourK; rw [if_pos h]
    obtain ⟨h1, h2, h3, h4⟩ := h
    obtain ⟨rfl, h5⟩ := okA_four h3
    obtain ⟨rfl, h6⟩ := okA_four h4
    have := Four.bytes_yes 0 0 false false 0 ttl.toNat pr slo dlo 0 rfl none 0 0 [] P m d ps w (by omega) (by omega) (by omega) (by omega) hpr h5 h6 (by omega) (by omega) (IsB.nil _ _ _) hp (by omega)
    rw [show ((ttl.toNat : Nat) : Int) = ttl by omega] at this
    refine this.mono ?_
    rintro e w' ⟨v, rfl, h1, h2⟩
    rw [hk]
    exact .yes h1 h2
  · have hk : fourK ttl shi slo dhi dlo = 1 := by unfold fourK; rw [if_neg h]
    refine (Four.put_no 0 0 false false 0 ttl pr false shi slo false dhi dlo none 0 0 P m d w (by unfold maxLen; omega) ?_).mono ?_
    · unfold Four.rightB
      rw [decide_eq_false_iff_not]
      rintro ⟨_, _, a, b, _, _, _, _, _, _, _, _, c, d, _⟩
      exact h ⟨a, b, c, d⟩
    rintro e w' ⟨rfl, h2⟩
    rw [hk]
    exact .no _ (by omega) h2
end Pkt
end Go.Proofs.Ytdmgbngdpjcliaa
/- pkt.wrap, by contract, over the function literal of pkt.Datagram, and over that of pkt.Segment. Conditions: what the literal makes is known, at most 4096 bytes. -/
namespace Go.Proofs.Ytdmgbngdpjcliaa
open Go.RowKit Go.ChangeShapes Go.WideShapes Go.ChangeAt Go.Deep
namespace Pkt
set_option maxRecDepth 20000 in
set_option maxHeartbeats 8000000 in
theorem wrapD_six (pr : Nat) (hpr : pr ≤ 255) (hib : Six.isB (pr : Int) = false) (shi slo dhi dlo : Nat) (sp dp ttl : Int) (ca cb : Addr) (sz : Nat) (hsz : sz ≤ 65535) (K1 : Nat) (U : List UInt8) (hU : U.length ≤ 4096) (w : World)
    (h4 : shi < 18446744073709551616) (h5 : slo < 18446744073709551616) (h6 : dhi < 18446744073709551616) (h7 : dlo < 18446744073709551616)
    (hin : ∀ (P : Option Addr) (m d : Nat) (w' : World), Below w.heap.size w w' → IsB w' w'.heap.size P m (Six.pseudoB shi slo dhi dlo sz pr) → m ≤ maxLen → Calls Try.prog 67 #[.slice P m d, .pointer (some ca), .pointer (some cb)] w' fun e w'' => InEnd K1 U w' w'' e) :
    Calls Try.prog 66 #[.agg #[.int .i64 (pr : Int), .bool true, .int .u64 (shi : Int), .int .u64 (slo : Int), .bool true, .int .u64 (dhi : Int), .int .u64 (dlo : Int), .int .i64 sp, .int .i64 dp], .int .i64 ttl, .func (.func 67) #[] #[.pointer (some ca), .pointer (some cb)], .int .i64 (sz : Int)] w fun e w' =>
      InEnd (if K1 = 0 then ttlK ttl else K1) (Six.allB6 0 0 ttl.toNat shi slo dhi dlo pr [] U) w w' e := by
  have hbox := blk_new w 56 #[.int .i64 (pr : Int), .bool true, .int .u64 (shi : Int), .int .u64 (slo : Int), .bool true, .int .u64 (dhi : Int), .int .u64 (dlo : Int), .int .i64 sp, .int .i64 dp]
  replace hin := hide hin
  replace hbox := hide hbox
  go_enter Try.func66, Try.ntmps66
  go_wp2_with fail
  refine (Six.pseudo_any true shi slo true dhi dlo pr sz pr sz (by omega) (by rw [IntKind.wrap_u64]; omega) _ h4 h5 h6 h7 (by omega)).mono ?_
  rintro e w2 ⟨v, rfl, hown, hb2⟩
  obtain ⟨A2, c2, rfl, hc2, hm2, hi2⟩ := hown.form
  clear hown
  have hbw2 : Below w.heap.size w w2 := ((Below.refl _ _).alloc (Nat.le_refl _) _).trans (hb2.mono (by simp))
  have hz2 := hb2.size
  simp only [World.size_alloc] at hz2
  have hbox2 := blk_below hb2 (by simp) hbox.out
  have hcell2 := blk_cell hbox2
  have hin2 := hin.out A2 _ c2 w2 hbw2 hi2 (by omega)
  clear hi2 hc2 hm2 hb2
  replace hbw2 := hide hbw2
  replace hbox2 := hide hbox2
  replace hin2 := hide hin2
  go_wp2_with fail
  go_at_call 67
  refine hin2.out.mono ?_
  rintro e w3 ⟨v3, rfl, hy, hn, hb3⟩
  have hB3 := hbw2.out.trans (hb3.mono hbw2.out.size)
  have hbox3 := blk_below hb3 (by omega) hbox2.out
  have hcell3 := blk_cell hbox3
  clear hcell2
  by_cases hk : K1 = 0
  · subst hk
    obtain ⟨A3, c3, rfl, hc3, hm3, hi3⟩ := (hy rfl).form
    clear hy hn
    have hput := six_put ttl shi slo dhi dlo pr hpr hib A3 U.length c3 U _ hi3 hc3 hm3 hU h4 h5 h6 h7
    replace hput := hide hput
    replace hi3 := hide hi3
    replace hB3 := hide hB3
    replace hbox3 := hide hbox3
    replace hb3 := hide hb3
    replace hin2 := hide hin2
    go_wp2_with fail
    unfold Six.hdV at hput
    refine hput.out.mono ?_
    rintro e w4 h4
    have h5 := h4.from hB3.out
    obtain ⟨v4, rfl, h6, h7, h8⟩ := h5
    clear h4
    replace h6 := hide h6
    replace h7 := hide h7
    replace h8 := hide h8
    go_wp2_with fail
    go_ret2
    exact ⟨v4, rfl, h6.out, h7.out, h8.out⟩
  · obtain rfl := hn hk
    have hK : ((K1 : Int) == 0) = false := by rw [beq_eq_false_iff_ne]; omega
    clear hy hn
    replace hB3 := hide hB3
    replace hbox3 := hide hbox3
    replace hb3 := hide hb3
    replace hin2 := hide hin2
    replace hk := hide hk
    go_wp2_with fail
    go_ret2
    exact .no _ hk.out hB3.out
set_option maxRecDepth 20000 in
set_option maxHeartbeats 8000000 in
theorem wrapD_four (pr : Nat) (hpr : pr ≤ 255) (_hib : Six.isB (pr : Int) = false) (shi slo dhi dlo : Nat) (sp dp ttl : Int) (ca cb : Addr) (sz : Nat) (hsz : sz ≤ 65535) (K1 : Nat) (U : List UInt8) (hU : U.length ≤ 4096) (w : World)
    (_h4 : shi < 18446744073709551616) (h5 : slo < 18446744073709551616) (_h6 : dhi < 18446744073709551616) (h7 : dlo < 18446744073709551616)
    (hin : ∀ (P : Option Addr) (m d : Nat) (w' : World), Below w.heap.size w w' → IsB w' w'.heap.size P m (((beB slo 4 ++ beB dlo 4) ++ [0, UInt8.ofNat pr]) ++ beB sz 2) → m ≤ maxLen → Calls Try.prog 67 #[.slice P m d, .pointer (some ca), .pointer (some cb)] w' fun e w'' => InEnd K1 U w' w'' e) :
    Calls Try.prog 66 #[.agg #[.int .i64 (pr : Int), .bool false, .int .u64 (shi : Int), .int .u64 (slo : Int), .bool false, .int .u64 (dhi : Int), .int .u64 (dlo : Int), .int .i64 sp, .int .i64 dp], .int .i64 ttl, .func (.func 67) #[] #[.pointer (some ca), .pointer (some cb)], .int .i64 (sz : Int)] w fun e w' =>
      InEnd (if K1 = 0 then fourK ttl shi slo dhi dlo else K1) (Four.hdB 0 0 0 ttl.toNat pr slo dlo [] U.length ++ U) w w' e := by
  have hbox := blk_new w 56 #[.int .i64 (pr : Int), .bool false, .int .u64 (shi : Int), .int .u64 (slo : Int), .bool false, .int .u64 (dhi : Int), .int .u64 (dlo : Int), .int .i64 sp, .int .i64 dp]
  replace hin := hide hin
  replace hbox := hide hbox
  go_enter Try.func66, Try.ntmps66
  go_wp2_with fail
  refine (Four.pseudo_any false shi slo false dhi dlo pr sz pr sz (by omega) (by rw [IntKind.wrap_u64]; omega) _ h5 h7 (by omega)).mono ?_
  rintro e w2 ⟨v, rfl, hown, hb2⟩
  obtain ⟨A2, c2, rfl, hc2, hm2, hi2⟩ := hown.form
  clear hown
  have hbw2 : Below w.heap.size w w2 := ((Below.refl _ _).alloc (Nat.le_refl _) _).trans (hb2.mono (by simp))
  have hz2 := hb2.size
  simp only [World.size_alloc] at hz2
  have hbox2 := blk_below hb2 (by simp) hbox.out
  have hcell2 := blk_cell hbox2
  have hin2 := hin.out A2 _ c2 w2 hbw2 hi2 (by omega)
  clear hi2 hc2 hm2 hb2
  replace hbw2 := hide hbw2
  replace hbox2 := hide hbox2
  replace hin2 := hide hin2
  go_wp2_with fail
  go_at_call 67
  refine hin2.out.mono ?_
  rintro e w3 ⟨v3, rfl, hy, hn, hb3⟩
  have hB3 := hbw2.out.trans (hb3.mono hbw2.out.size)
  have hbox3 := blk_below hb3 (by omega) hbox2.out
  have hcell3 := blk_cell hbox3
  clear hcell2
  by_cases hk : K1 = 0
  · subst hk
    obtain ⟨A3, c3, rfl, hc3, hm3, hi3⟩ := (hy rfl).form
    clear hy hn
    have hput := four_put ttl shi slo dhi dlo pr hpr A3 U.length c3 U _ hi3 hU
    replace hput := hide hput
    replace hi3 := hide hi3
    replace hB3 := hide hB3
    replace hbox3 := hide hbox3
    replace hb3 := hide hb3
    replace hin2 := hide hin2
    go_wp2_with fail
    unfold Four.hdV at hput
    refine hput.out.mono ?_
    rintro e w4 h4
    have h5 := h4.from hB3.out
    obtain ⟨v4, rfl, h6, h7, h8⟩ := h5
    clear h4
    replace h6 := hide h6
    replace h7 := hide h7
    replace h8 := hide h8
    go_wp2_with fail
    go_ret2
    exact ⟨v4, rfl, h6.out, h7.out, h8.out⟩
  · obtain rfl := hn hk
    have hK : ((K1 : Int) == 0) = false := by rw [beq_eq_false_iff_ne]; omega
    clear hy hn
    replace hB3 := hide hB3
    replace hbox3 := hide hbox3
    replace hb3 := hide hb3
    replace hin2 := hide hin2
    replace hk := hide hk
    go_wp2_with fail
    go_ret2
    exact .no _ hk.out hB3.out
set_option maxRecDepth 20000 in
set_option maxHeartbeats 8000000 in
theorem wrapS_six (pr : Nat) (hpr : pr ≤ 255) (hib : Six.isB (pr : Int) = false) (shi slo dhi dlo : Nat) (sp dp ttl : Int) (ca cb cc : Addr) (sz : Nat) (hsz : sz ≤ 65535) (K1 : Nat) (U : List UInt8) (hU : U.length ≤ 4096) (w : World)
    (h4 : shi < 18446744073709551616) (h5 : slo < 18446744073709551616) (h6 : dhi < 18446744073709551616) (h7 : dlo < 18446744073709551616)
    (hin : ∀ (P : Option Addr) (m d : Nat) (w' : World), Below w.heap.size w w' → IsB w' w'.heap.size P m (Six.pseudoB shi slo dhi dlo sz pr) → m ≤ maxLen → Calls Try.prog 69 #[.slice P m d, .pointer (some ca), .pointer (some cb), .pointer (some cc)] w' fun e w'' => InEnd K1 U w' w'' e) :
    Calls Try.prog 66 #[.agg #[.int .i64 (pr : Int), .bool true, .int .u64 (shi : Int), .int .u64 (slo : Int), .bool true, .int .u64 (dhi : Int), .int .u64 (dlo : Int), .int .i64 sp, .int .i64 dp], .int .i64 ttl, .func (.func 69) #[] #[.pointer (some ca), .pointer (some cb), .pointer (some cc)], .int .i64 (sz : Int)] w fun e w' =>
      InEnd (if K1 = 0 then ttlK ttl else K1) (Six.allB6 0 0 ttl.toNat shi slo dhi dlo pr [] U) w w' e := by
  have hbox := blk_new w 56 #[.int .i64 (pr : Int), .bool true, .int .u64 (shi : Int), .int .u64 (slo : Int), .bool true, .int .u64 (dhi : Int), .int .u64 (dlo : Int), .int .i64 sp, .int .i64 dp]
  replace hin := hide hin
  replace hbox := hide hbox
  go_enter Try.func66, Try.ntmps66
  go_wp2_with fail
  refine (Six.pseudo_any true shi slo true dhi dlo pr sz pr sz (by omega) (by rw [IntKind.wrap_u64]; omega) _ h4 h5 h6 h7 (by omega)).mono ?_
  rintro e w2 ⟨v, rfl, hown, hb2⟩
  obtain ⟨A2, c2, rfl, hc2, hm2, hi2⟩ := hown.form
  clear hown
  have hbw2 : Below w.heap.size w w2 := ((Below.refl _ _).alloc (Nat.le_refl _) _).trans (hb2.mono (by simp))
  have hz2 := hb2.size
  simp only [World.size_alloc] at hz2
  have hbox2 := blk_below hb2 (by simp) hbox.out
  have hcell2 := blk_cell hbox2
  have hin2 := hin.out A2 _ c2 w2 hbw2 hi2 (by omega)
  clear hi2 hc2 hm2 hb2
  replace hbw2 := hide hbw2
  replace hbox2 := hide hbox2
  replace hin2 := hide hin2
  go_wp2_with fail
  go_at_call 69
  refine hin2.out.mono ?_
  rintro e w3 ⟨v3, rfl, hy, hn, hb3⟩
  have hB3 := hbw2.out.trans (hb3.mono hbw2.out.size)
  have hbox3 := blk_below hb3 (by omega) hbox2.out
  have hcell3 := blk_cell hbox3
  clear hcell2
  by_cases hk : K1 = 0
  · subst hk
    obtain ⟨A3, c3, rfl, hc3, hm3, hi3⟩ := (hy rfl).form
    clear hy hn
    have hput := six_put ttl shi slo dhi dlo pr hpr hib A3 U.length c3 U _ hi3 hc3 hm3 hU h4 h5 h6 h7
    replace hput := hide hput
    replace hi3 := hide hi3
    replace hB3 := hide hB3
    replace hbox3 := hide hbox3
    replace hb3 := hide hb3
    replace hin2 := hide hin2
    go_wp2_with fail
    unfold Six.hdV at hput
    refine hput.out.mono ?_
    rintro e w4 h4
    have h5 := h4.from hB3.out
    obtain ⟨v4, rfl, h6, h7, h8⟩ := h5
    clear h4
    replace h6 := hide h6
    replace h7 := hide h7
    replace h8 := hide h8
    go_wp2_with fail
    go_ret2
    exact ⟨v4, rfl, h6.out, h7.out, h8.out⟩
  · obtain rfl := hn hk
    have hK : ((K1 : Int) == 0) = false := by rw [beq_eq_false_iff_ne]; omega
    clear hy hn
    replace hB3 := hide hB3
    replace hbox3 := hide hbox3
    replace hb3 := hide hb3
    replace hin2 := hide hin2
    replace hk := hide hk
    go_wp2_with fail
    go_ret2
    exact .no _ hk.out hB3.out
set_option maxRecDepth 20000 in
set_option maxHeartbeats 8000000 in
theorem wrapS_four (pr : Nat) (hpr : pr ≤ 255) (_hib : Six.isB (pr : Int) = false) (shi slo dhi dlo : Nat) (sp dp ttl : Int) (ca cb cc : Addr) (sz : Nat) (hsz : sz ≤ 65535) (K1 : Nat) (U : List UInt8) (hU : U.length ≤ 4096) (w : World)
    (_h4 : shi < 18446744073709551616) (h5 : slo < 18446744073709551616) (_h6 : dhi < 18446744073709551616) (h7 : dlo < 18446744073709551616)
    (hin : ∀ (P : Option Addr) (m d : Nat) (w' : World), Below w.heap.size w w' → IsB w' w'.heap.size P m (((beB slo 4 ++ beB dlo 4) ++ [0, UInt8.ofNat pr]) ++ beB sz 2) → m ≤ maxLen → Calls Try.prog 69 #[.slice P m d, .pointer (some ca), .pointer (some cb), .pointer (some cc)] w' fun e w'' => InEnd K1 U w' w'' e) :
    Calls Try.prog 66 #[.agg #[.int .i64 (pr : Int), .bool false, .int .u64 (shi : Int), .int .u64 (slo : Int), .bool false, .int .u64 (dhi : Int), .int .u64 (dlo : Int), .int .i64 sp, .int .i64 dp], .int .i64 ttl, .func (.func 69) #[] #[.pointer (some ca), .pointer (some cb), .pointer (some cc)], .int .i64 (sz : Int)] w fun e w' =>
      InEnd (if K1 = 0 then fourK ttl shi slo dhi dlo else K1) (Four.hdB 0 0 0 ttl.toNat pr slo dlo [] U.length ++ U) w w' e := by
  have hbox := blk_new w 56 #[.int .i64 (pr : Int), .bool false, .int .u64 (shi : Int), .int .u64 (slo : Int), .bool false, .int .u64 (dhi : Int), .int .u64 (dlo : Int), .int .i64 sp, .int .i64 dp]
  replace hin := hide hin
  replace hbox := hide hbox
  go_enter Try.func66, Try.ntmps66
  go_wp2_with fail
  refine (Four.pseudo_any false shi slo false dhi dlo pr sz pr sz (by omega) (by rw [IntKind.wrap_u64]; omega) _ h5 h7 (by omega)).mono ?_
  rintro e w2 ⟨v, rfl, hown, hb2⟩
  obtain ⟨A2, c2, rfl, hc2, hm2, hi2⟩ := hown.form
  clear hown
  have hbw2 : Below w.heap.size w w2 := ((Below.refl _ _).alloc (Nat.le_refl _) _).trans (hb2.mono (by simp))
  have hz2 := hb2.size
  simp only [World.size_alloc] at hz2
  have hbox2 := blk_below hb2 (by simp) hbox.out
  have hcell2 := blk_cell hbox2
  have hin2 := hin.out A2 _ c2 w2 hbw2 hi2 (by omega)
  clear hi2 hc2 hm2 hb2
  replace hbw2 := hide hbw2
  replace hbox2 := hide hbox2
  replace hin2 := hide hin2
  go_wp2_with fail
  go_at_call 69
  refine hin2.out.mono ?_
  rintro e w3 ⟨v3, rfl, hy, hn, hb3⟩
  have hB3 := hbw2.out.trans (hb3.mono hbw2.out.size)
  have hbox3 := blk_below hb3 (by omega) hbox2.out
  have hcell3 := blk_cell hbox3
  clear hcell2
  by_cases hk : K1 = 0
  · subst hk
    obtain ⟨A3, c3, rfl, hc3, hm3, hi3⟩ := (hy rfl).form
    clear hy hn
    have hput := four_put ttl shi slo dhi dlo pr hpr A3 U.length c3 U _ hi3 hU
    replace hput := hide hput
    replace hi3 := hide hi3
    replace hB3 := hide hB3
    replace hbox3 := hide hbox3
    replace hb3 := hide hb3
    replace hin2 := hide hin2
    go_wp2_with fail
    unfold Four.hdV at hput
    refine hput.out.mono ?_
    rintro e w4 h4
    have h5 := h4.from hB3.out
    obtain ⟨v4, rfl, h6, h7, h8⟩ := h5
    clear h4
    replace h6 := hide h6
    replace h7 := hide h7
    replace h8 := hide h8
    go_wp2_with fail
    go_ret2
    exact ⟨v4, rfl, h6.out, h7.out, h8.out⟩
  · obtain rfl := hn hk
    have hK : ((K1 : Int) == 0) = false := by rw [beq_eq_false_iff_ne]; omega
    clear hy hn
    replace hB3 := hide hB3
    replace hbox3 := hide hbox3
    replace hb3 := hide hb3
    replace hin2 := hide hin2
    replace hk := hide hk
    go_wp2_with fail
    go_ret2
    exact .no _ hk.out hB3.out
end Pkt
end Go.Proofs.Ytdmgbngdpjcliaa
/- pkt.parse4, by contract: a packet of version 4. Conditions: what four.Parse makes of the bytes, and what upper makes of what is behind. -/
namespace Go.Proofs.Ytdmgbngdpjcliaa
open Go.RowKit Go.ChangeShapes Go.WideShapes Go.ChangeAt Go.Deep
section
variable {P : Program} {md : Region.Mode} {Q : Exit → Act → World → Prop}
/-- A whole struct is read, in a drawn region. -/
theorem wpQE_ld {ops : Array Oper} {w0 : World} {Q : Act → Prop} {a : Act} {op : Oper} {rest : List Oper} (hgd : op.guard = none) (ty : TypeId) (x : Operand) (ho : op.op = .load ty x) (g : Nat) (hx : a.eval x = .pointer (some ⟨g, 0, none⟩)) (cs : Array Value) {t : TypeId} (d : TypeDesc)
    (hS : ∀ l : Later w0, l.w.heap[g]? = some (.cells cs t (0, 0))) (hu : P.underlying ty = some d) (hd : d.isRow = true) (hi : (P.info? ty).map (·.size) = some cs.size)
    (h : wpQE P ops w0 Q rest (a.put op.dst (.agg cs))) : wpQE P ops w0 Q (op :: rest) a := wpQE_step fun K hK => by
  rw [if_pos (by simp [Region.wanted, hgd])]
  refine ⟨.agg cs, fun l => ?_, hK _ h⟩
  have h1 := run_loadVar_mid (P := P) l.w g 0 ty cs.toList d (blk_range (hS l)) hu hd (by rw [hi, Array.length_toList])
  unfold execOp
  simp only [ho, hx, Instr.loadAt, Instr.sureAddr, Sem.run_bind, Sem.run_pure, Result.andThen_ok, h1]
  exact ⟨by simp, lt_refl _⟩
/-- A struct is stored, as the one step that may come up. -/
theorem wpT_st (i : Nat) {L : List Oper} {op : Oper} {rest : List Oper} {fuel : Nat} {listed : Array Bool} {a : Act} {w : World} (hd : L.drop i = op :: rest) (hrd : Region.ready md L.toArray listed = [i]) (hgd : op.guard = none)
    (ty : TypeId) (x y : Operand) (ho : op.op = .store ty x y) (g o : Nat) (hx : a.eval x = .pointer (some ⟨g, o, none⟩)) (vs : Array Value) (hy : a.eval y = .agg vs) {cs : Array Value} {t : TypeId} (hc : w.heap[g]? = some (.cells cs t (0, 0))) (hn : o + vs.size ≤ cs.size)
    (hi : (P.info? ty).map (·.size) = some vs.size) (h1 : vs.all (·.oneCell') = true)
    (h : ∀ w', w'.heap[g]? = some (.cells (putA cs o vs.toList) t (0, 0)) → w.grownBy w' (some g) → wpAny P md L.toArray Q fuel (listed.setIfInBounds i true) (a.put op.dst undef) w') : wpAny P md L.toArray Q (fuel + 1) listed a w := by
  obtain ⟨w', e, h2, h3⟩ := stored_at (o := o) hc vs.toList (by simpa using hn)
  refine wpT_step i hd hrd fun K hK => ?_
  rw [if_pos (by unfold Region.wanted; rw [hgd])]
  refine wp_store_mid ty x y ho g o vs hx hy (blk_there hc hn) hi h1 ?_
  rw [e]
  exact hK _ _ (h w' h2 h3)
end
namespace Pkt
/-- A packet of version 4 without what is behind its header. -/
def p4A (proto slo dlo ttl sz : Nat) : Array Value := #[.bool false, .int .i64 (proto : Int), .bool false, .int .u64 0, .int .u64 (slo : Int), .bool false, .int .u64 0, .int .u64 (dlo : Int), .int .i64 0, .int .i64 0, .int .i64 (ttl : Int), .int .i64 0, .bool false, .int .i64 0, .bool false, .int .u64 0, .int .u64 0, .bool false, .int .u64 0, .int .u64 0, .int .i64 0, .int .i64 0, .int .i64 (sz : Int)]
theorem p4A_one (proto slo dlo ttl sz : Nat) : (p4A proto slo dlo ttl sz).all (·.oneCell') = true := all_oneCell_toArray (by
  intro v hv
  simp only [List.mem_cons, List.not_mem_nil, or_false] at hv
  rcases hv with rfl | rfl | rfl | rfl | rfl | rfl | rfl | rfl | rfl | rfl | rfl | rfl | rfl | rfl | rfl | rfl | rfl | rfl | rfl | rfl | rfl | rfl | rfl <;> rfl)
/-- What goes ahead in a check in version 4. -/
def ps4 (slo dlo proto m1 : Nat) : List UInt8 := ((beB slo 4 ++ beB dlo 4) ++ [0, UInt8.ofNat proto]) ++ beB m1 2
/-- What upper makes of bytes, wherever they lie. -/
def UpIs (cs : Array Value) (errs : Int) (xs ps : List UInt8) (K : Nat) (y : Array Value) : Prop :=
  ∀ (A P : Option Addr) (c d : Nat) (w : World), IsB w w.heap.size A xs.length xs → IsB w w.heap.size P ps.length ps → xs.length ≤ c → c ≤ maxLen → Calls Try.prog 85 #[.agg cs, .slice A xs.length c, .slice P ps.length d, .int .i64 errs] w fun e w' => End2 K y w w' e
set_option maxRecDepth 20000 in
set_option maxHeartbeats 16000000 in
theorem parse4_ok (n : Nat) (xs : List UInt8) (tos id : Nat) (df : Bool) (ttl proto slo dlo n1 m1 : Nat) (rest : List UInt8) (hF : Tun.FourIs n xs 0 tos id df false 0 ttl proto slo dlo n1 m1 rest) (hsz : 20 + n1 + m1 ≤ 1099511627776) (hpr : proto ≤ 255) (hsl : slo < 4294967296) (hdl : dlo < 4294967296) (hrm : rest.length = m1)
    (KK : Nat) (y : Array Value) (hU : UpIs (p4A proto slo dlo ttl (20 + n1 + m1)) 1 rest (ps4 slo dlo proto m1) KK y) (hy : KK = 0 → y.size = 23 ∧ y.all (·.oneCell') = true)
    (A : Option Addr) (c : Nat) (w : World) (hx : IsB w w.heap.size A n xs) (hnc : n ≤ c) (hcm : c ≤ maxLen) :
    Calls Try.prog 58 #[.slice A n c] w fun e w' => End2 KK y w w' e := by
  obtain ⟨zs, hzs⟩ : ∃ zs, pkZ = zs := ⟨_, rfl⟩
  have hbz : Below w.heap.size w (w.alloc (.cells pkZ 58)) := (Below.refl _ _).alloc (Nat.le_refl _) _
  have hgz := blk_new w 58 pkZ
  obtain ⟨w1, hw1⟩ : ∃ w1, w.alloc (.cells pkZ 58) = w1 := ⟨_, rfl⟩
  have hz1 : w.heap.size < w1.heap.size := by rw [← hw1]; simp
  rw [hw1] at hbz hgz
  rw [hzs] at hgz
  unfold pkZ at hw1
  have hzz : zs.size = 23 := hzs ▸ pkZ_size
  have hFc := hF A c w1 (hx.on hbz) hnc hcm
  replace hx := hide hx
  replace hbz := hide hbz
  replace hgz := hide hgz
  replace hFc := hide hFc
  replace hF := hide hF
  replace hU := hide hU
  replace hzs := hide hzs
  replace hy := hide hy
  go_enter Try.func58, Try.ntmps58
  go_wp2_with fail
  refine hFc.out.mono ?_
  rintro e w2 ⟨A1, c1, A2, c2, rfl, hi2, hc2, hm2, hb2⟩
  have z2 := hb2.size
  obtain ⟨w3, hw3⟩ : ∃ w3, w2.alloc (Four.hdC tos id df false 0 ttl proto false 0 slo false 0 dlo A1 n1 c1) = w3 := ⟨_, rfl⟩
  have hb23 : Below w2.heap.size w2 w3 := hw3 ▸ (Below.refl _ _).alloc (Nat.le_refl _) _
  have hgh : w3.heap[w2.heap.size]? = some (Four.hdC tos id df false 0 ttl proto false 0 slo false 0 dlo A1 n1 c1) := hw3 ▸ blk_new _ _ _
  have hz3 : w2.heap.size < w3.heap.size := by rw [← hw3]; simp
  unfold Four.hdC at hgh hw3
  have hB3 := (hbz.out.trans (hb2.mono (by omega))).trans (hb23.mono (by omega))
  have hg03 := blk_below hb23 (by omega) (blk_below hb2 hz1 hgz.out)
  have hi3 := hi2.on hb23
  have hch := blk_cell hgh
  clear hw1 hb2 hb23 hi2
  unfold Four.hdV
  replace hgh := hide hgh
  replace hB3 := hide hB3
  replace hg03 := hide hg03
  replace hi3 := hide hi3
  go_upto_region 6 with fail
  clear hw3 hch
  go_cut [7] (fun tv wx => ∃ g w5, tv = .pointer (some ⟨g, 0, none⟩) ∧ w5.heap[g]? = some (.cells (p4A proto slo dlo ttl (20 + n1 + m1)) 58 (0, 0)) ∧ w3.heap.size ≤ g ∧ g < w5.heap.size ∧ Below w3.heap.size w3 w5 ∧ w5 = wx)
  case first =>
    have hcl := fun (l : Later w3) (o : Nat) => blk_cell (blk_below l.hb hz3 hgh.out) o
    have hln := fun (l : Later w3) => Four.len_any tos id df false 0 ttl proto false 0 slo false 0 dlo A1 n1 c1 l.w (by omega)
    replace hln := hide hln
    refine wp_region_L (by as_aux_lemma => kernel_rfl) ?_
    refine wpE_seg 0 15 (fuel := 2) (by as_aux_lemma => kernel_rfl) (fun d _ _ _ _ h => by cases d <;> exact h) (by as_aux_lemma => kernel_rfl) (by as_aux_lemma => kernel_rfl) ?_
    simp only [List.drop_zero, List.take_succ_cons, List.take_zero]
    iterate 10 (refine wpQE_step (fun K hK => ?_); go_simp; refine hK _ ?_; clear hK K)
    (refine wpQE_step (fun K hK => ?_); go_simp; apply Exists.intro; refine ⟨fun l => ?_, hK _ ?_⟩; (go_at_call 50; refine (hln.out l).mono ?_; rintro e w' ⟨rfl, hb⟩; exact ⟨rfl, hb⟩); clear hK K)
    iterate 4 (refine wpQE_step (fun K hK => ?_); go_simp; refine hK _ ?_; clear hK K)
    refine wpQE_nil ?_
    have q1 : IntKind.i64.wrap ((20 : Int) + (n1 : Int) + (m1 : Int)) = ((20 + n1 + m1 : Nat) : Int) := by rw [wraps62 _ (by omega) (by omega)]; omega
    rw [q1]
    clear q1 hcl hln
    refine wpE_step 15 (fuel := 1) rfl (by as_aux_lemma => kernel_rfl) (fun l K hK => ?_)
    go_simp
    have zl := l.hb.size
    have hbl2 : Below l.w.heap.size l.w (l.w.alloc (.cells pkZ 58)) := (Below.refl _ _).alloc (Nat.le_refl _) _
    have hgp := blk_new l.w 58 pkZ
    have hzp : l.w.heap.size < (l.w.alloc (.cells pkZ 58)).heap.size := by simp
    refine hK _ _ hbl2 ?_
    clear hK K
    change wpE _ _ _ _ _ _ _ _ (l.w.alloc (.cells pkZ 58))
    generalize l.w.alloc (.cells pkZ 58) = w4 at hbl2 hgp hzp ⊢
    refine wpE_end (by as_aux_lemma => kernel_rfl) (fun l2 => ?_)
    have zl2 := l2.hb.size
    have hgp2 := blk_below l2.hb hzp hgp
    have hBl : Below w3.heap.size w3 l2.w := (l.hb.trans (hbl2.mono zl)).trans (l2.hb.mono (by omega))
    refine wpT_st 16 rfl (by as_aux_lemma => kernel_rfl) rfl 58 (.tmp 7) (.tmp 42) rfl l.w.heap.size 0 rfl (p4A proto slo dlo ttl (20 + n1 + m1)) rfl hgp2 (show 0 + 23 ≤ 23 by omega) size_pk (p4A_one _ _ _ _ _) fun w5 hg5 g5 => ?_
    rw [putA_whole pkZ (p4A proto slo dlo ttl (20 + n1 + m1)) rfl] at hg5
    have hB5 := hBl.trans (below_grown g5 (by omega) (by omega))
    have z5 := g5.size
    clear g5
    replace hg5 := hide hg5
    replace hB5 := hide hB5
    replace hgp2 := hide hgp2
    replace hgp := hide hgp
    refine wpT_done (by as_aux_lemma => kernel_rfl) ?_ 0
    go_wp2_with fail
    go_meet
    exact ⟨l.w.heap.size, w5, rfl, hg5.out, by omega, by omega, hB5.out, rfl⟩
  case rest =>
  obtain ⟨g, w5, rfl, hg5, hgl, hgl2, hb5, rfl⟩ := hcut
  have z5 := hb5.size
  have hB5 := hB3.out.trans (hb5.mono (by omega))
  have hg05 := blk_below hb5 (by omega) hg03.out
  have hi5 := hi3.out.on hb5
  have hgh5 := blk_below hb5 hz3 hgh.out
  have hcl := fun (l : Later w5) (o : Nat) => blk_cell (blk_below l.hb (by omega) hgh5) o
  have hgl5 := fun (l : Later w5) => blk_below l.hb hgl2 hg5
  have hps := fun (l : Later w5) => Four.pseudo_any false 0 slo false 0 dlo proto m1 proto m1 (by omega) (by rw [IntKind.wrap_u64]; omega) l.w (by omega) (by omega) (by omega)
  replace hB5 := hide hB5
  replace hg05 := hide hg05
  replace hi5 := hide hi5
  replace hgh5 := hide hgh5
  replace hg5 := hide hg5
  replace hb5 := hide hb5
  replace hgl5 := hide hgl5
  replace hps := hide hps
  go_upto_region 7 with fail
  refine wp_region_L (by as_aux_lemma => kernel_rfl) ?_
  refine wpE_seg 0 10 (fuel := 6) (by as_aux_lemma => kernel_rfl) (fun d _ _ _ _ h => by cases d <;> exact h) (by as_aux_lemma => kernel_rfl) (by as_aux_lemma => kernel_rfl) ?_
  simp only [List.drop_zero, List.take_succ_cons, List.take_zero]
  refine wpQE_ld rfl 58 (.tmp 7) rfl g rfl (p4A proto slo dlo ttl (20 + n1 + m1)) _ hgl5.out Try.underlying58 rfl size_pk ?_
  generalize hpa : p4A proto slo dlo ttl (20 + n1 + m1) = pa at hU
  iterate 9 (refine wpQE_step (fun K hK => ?_); go_simp; refine hK _ ?_; clear hK K)
  refine wpQE_nil ?_
  clear hcl
  refine wpE_step 10 (fuel := 5) rfl (by as_aux_lemma => kernel_rfl) (fun l K hK => ?_)
  go_simp
  go_at_call 86
  refine (hps.out l).mono ?_
  rintro e w6 ⟨v, rfl, hown, hb6⟩
  refine hK _ _ hb6 ?_
  clear hK K
  obtain ⟨pl, hpl⟩ : ∃ pl, (ps4 slo dlo proto m1).length = pl := ⟨_, rfl⟩
  have hown' : OwnB w6 l.w.heap.size v (ps4 slo dlo proto m1) := hown
  obtain ⟨A6, c6, rfl, hc6, hm6, hi6⟩ := hown'.form
  rw [hpl] at hi6 hc6 ⊢
  clear hown hown'
  refine wpE_step 11 (fuel := 4) rfl (by as_aux_lemma => kernel_rfl) (fun l2 K hK => ?_)
  go_simp
  have zl := l.hb.size
  have z6 := hb6.size
  have zl2 := l2.hb.size
  have hbw : Below w5.heap.size w5 l2.w := (l.hb.trans (hb6.mono zl)).trans (l2.hb.mono (by omega))
  have hUc := hU.out A2 A6 c2 c6 l2.w (by rw [hrm]; exact hi5.out.on hbw) (by rw [hpl]; exact hi6.on l2.hb) (by omega) hm2
  rw [hrm, hpl] at hUc
  have hg0l := blk_below hbw (by omega) hg05.out
  have hBl := hB5.out.trans (hbw.mono (by omega))
  clear hb6 hi6
  replace hUc := hide hUc
  replace hg0l := hide hg0l
  replace hBl := hide hBl
  replace hpl := hide hpl
  replace hpa := hide hpa
  replace hbw := hide hbw
  go_at_call 85
  refine hUc.out.mono ?_
  rintro e w7 ⟨rfl, hb7⟩
  obtain ⟨z, hz, hzs2, hzo⟩ : ∃ z, (if KK = 0 then y else pkZ) = z ∧ z.size = 23 ∧ z.all (·.oneCell') = true := by
    by_cases h : KK = 0
    · exact ⟨y, by rw [if_pos h], hy.out h⟩
    · exact ⟨pkZ, by rw [if_neg h], pkZ_size, pkZ_one⟩
  rw [hz]
  refine hK _ _ hb7 ?_
  clear hK K
  refine wpE_seg 12 2 (fuel := 2) (by as_aux_lemma => kernel_rfl) (fun d _ _ _ _ h => by cases d <;> exact h) (by as_aux_lemma => kernel_rfl) (by as_aux_lemma => kernel_rfl) ?_
  simp only [List.drop_succ_cons, List.drop_zero, List.take_succ_cons, List.take_zero]
  iterate 2 (refine wpQE_step (fun K hK => ?_); go_simp; refine hK _ ?_; clear hK K)
  refine wpQE_nil ?_
  refine wpE_end (by as_aux_lemma => kernel_rfl) (fun l3 => ?_)
  have z7 := hb7.size
  have zl3 := l3.hb.size
  have hg07 := blk_below l3.hb (by omega) (blk_below hb7 (by omega) hg0l.out)
  have hB7 := (hBl.out.trans (hb7.mono (by omega))).trans (l3.hb.mono (by omega))
  clear hb7
  replace hg07 := hide hg07
  replace hB7 := hide hB7
  replace hzo := hide hzo
  replace hz := hide hz
  refine wpT_st 14 rfl (by as_aux_lemma => kernel_rfl) rfl 58 (.tmp 2) (.tmp 55) rfl w.heap.size 0 rfl z rfl hg07.out (by rw [hzz, hzs2]; omega) (by rw [size_pk, hzs2]) hzo.out fun w9 hg9 g9 => ?_
  rw [putA_whole _ _ (by rw [hzz, hzs2])] at hg9
  have hB9 := hB7.out.trans (below_grown g9 (by omega) (by omega))
  have hld : (loadVar 58 ⟨w.heap.size, 0, none⟩).run Try.prog w9 = .ok (.agg z) w9 := by
    simpa using run_loadVar_mid w9 w.heap.size 0 58 z.toList _ (blk_range hg9) Try.underlying58 rfl (by rw [size_pk, Array.length_toList, hzs2])
  have hfin : End2 KK y w w9 (.returned (.tuple #[.agg z, .int .i64 (KK : Int)])) := ⟨by rw [hz.out], hB9⟩
  clear g9
  replace hg9 := hide hg9
  replace hB9 := hide hB9
  replace hfin := hide hfin
  replace hld := hide hld
  refine wpT_step 15 rfl (by as_aux_lemma => kernel_rfl) (fun K hK => ?_)
  go_simp
  refine hK _ _ ?_
  clear hK K
  refine wpT_done (by as_aux_lemma => kernel_rfl) ?_ 0
  go_wp2_with fail
  exact bodyPost_ret (v := .tuple #[.agg z, .int .i64 (KK : Int)]) (by simp [results, Try.results58, asAddr, hld.out, Result.andThen]) rfl hfin.out
set_option maxRecDepth 20000 in
set_option maxHeartbeats 16000000 in
theorem parse4_bad (n : Nat) (xs : List UInt8) (KK : Nat) (hK0 : KK ≠ 0) (hF : Tun.FourIs n xs KK 0 0 false false 0 0 0 0 0 0 0 []) (y : Array Value)
    (A : Option Addr) (c : Nat) (w : World) (hx : IsB w w.heap.size A n xs) (hnc : n ≤ c) (hcm : c ≤ maxLen) :
    Calls Try.prog 58 #[.slice A n c] w fun e w' => End2 KK y w w' e := by
  have t1 : ((KK : Int) == 0) = false := by rw [beq_eq_false_iff_ne]; omega
  obtain ⟨zs, hzs⟩ : ∃ zs, pkZ = zs := ⟨_, rfl⟩
  have hbz : Below w.heap.size w (w.alloc (.cells pkZ 58)) := (Below.refl _ _).alloc (Nat.le_refl _) _
  have hgz := blk_new w 58 pkZ
  obtain ⟨w1, hw1⟩ : ∃ w1, w.alloc (.cells pkZ 58) = w1 := ⟨_, rfl⟩
  have hz1 : w.heap.size < w1.heap.size := by rw [← hw1]; simp
  rw [hw1] at hbz hgz
  rw [hzs] at hgz
  unfold pkZ at hw1
  have hzz : zs.size = 23 := hzs ▸ pkZ_size
  have hFc := hF A c w1 (hx.on hbz) hnc hcm
  replace hx := hide hx
  replace hbz := hide hbz
  replace hgz := hide hgz
  replace hFc := hide hFc
  replace hF := hide hF
  replace hzs := hide hzs
  go_enter Try.func58, Try.ntmps58
  go_wp2_with fail
  refine hFc.out.mono ?_
  rintro e w2 ⟨A1, c1, A2, c2, rfl, _, _, _, hb2⟩
  have z2 := hb2.size
  obtain ⟨w3, hw3⟩ : ∃ w3, w2.alloc (Four.hdC 0 0 false false 0 0 0 false 0 0 false 0 0 A1 0 c1) = w3 := ⟨_, rfl⟩
  have hb23 : Below w2.heap.size w2 w3 := hw3 ▸ (Below.refl _ _).alloc (Nat.le_refl _) _
  have hgh : w3.heap[w2.heap.size]? = some (Four.hdC 0 0 false false 0 0 0 false 0 0 false 0 0 A1 0 c1) := hw3 ▸ blk_new _ _ _
  have hz3 : w2.heap.size < w3.heap.size := by rw [← hw3]; simp
  unfold Four.hdC at hgh hw3
  have hB3 := (hbz.out.trans (hb2.mono (by omega))).trans (hb23.mono (by omega))
  have hg03 := blk_below hb23 (by omega) (blk_below hb2 hz1 hgz.out)
  have hch := blk_cell hgh
  clear hw1 hb2 hb23
  unfold Four.hdV
  replace hgh := hide hgh
  replace hB3 := hide hB3
  replace hg03 := hide hg03
  go_upto_region 3 with fail
  clear hw3 hch
  apply wp_region_lit
  refine wpList_plain rfl fun K hK => ?_
  go_simp
  refine hK _ _ ?_
  clear hK K
  refine wpList_plain rfl fun K hK => ?_
  go_simp
  refine hK _ _ ?_
  clear hK K
  refine wpl_st rfl 58 (.tmp 2) (.tmp 17) rfl w.heap.size 0 rfl pkZ rfl hg03.out (by rw [hzz, pkZ_size]; omega) size_pk pkZ_one fun w9 hg9 g9 => ?_
  rw [putA_whole _ _ (by rw [hzz, pkZ_size])] at hg9
  have hB9 := hB3.out.trans (below_grown g9 (by omega) (by omega))
  have hld : (loadVar 58 ⟨w.heap.size, 0, none⟩).run Try.prog w9 = .ok (.agg pkZ) w9 := by
    simpa using run_loadVar_mid w9 w.heap.size 0 58 pkZ.toList _ (blk_range hg9) Try.underlying58 rfl (by rw [size_pk, Array.length_toList, pkZ_size])
  have hfin := end_bad (y := y) KK hK0 hB9
  clear g9
  replace hg9 := hide hg9
  replace hB9 := hide hB9
  replace hfin := hide hfin
  replace hld := hide hld
  refine wpList_plain rfl fun K hK => ?_
  go_simp
  refine hK _ _ ?_
  clear hK K
  refine wpList_nil ?_
  go_wp2_with fail
  exact bodyPost_ret (v := .tuple #[.agg pkZ, .int .i64 (KK : Int)]) (by simp [results, Try.results58, asAddr, hld.out, Result.andThen]) rfl hfin.out
set_option maxRecDepth 20000 in
set_option maxHeartbeats 16000000 in
theorem parse4_frag (n : Nat) (xs : List UInt8) (tos id : Nat) (df mf : Bool) (frag ttl proto slo dlo n1 m1 : Nat) (rest : List UInt8) (hF : Tun.FourIs n xs 0 tos id df mf frag ttl proto slo dlo n1 m1 rest) (hfr : 0 < frag ∨ mf = true) (y : Array Value)
    (A : Option Addr) (c : Nat) (w : World) (hx : IsB w w.heap.size A n xs) (hnc : n ≤ c) (hcm : c ≤ maxLen) :
    Calls Try.prog 58 #[.slice A n c] w fun e w' => End2 21 y w w' e := by
  obtain ⟨zs, hzs⟩ : ∃ zs, pkZ = zs := ⟨_, rfl⟩
  have hbz : Below w.heap.size w (w.alloc (.cells pkZ 58)) := (Below.refl _ _).alloc (Nat.le_refl _) _
  have hgz := blk_new w 58 pkZ
  obtain ⟨w1, hw1⟩ : ∃ w1, w.alloc (.cells pkZ 58) = w1 := ⟨_, rfl⟩
  have hz1 : w.heap.size < w1.heap.size := by rw [← hw1]; simp
  rw [hw1] at hbz hgz
  rw [hzs] at hgz
  unfold pkZ at hw1
  have hzz : zs.size = 23 := hzs ▸ pkZ_size
  have hFc := hF A c w1 (hx.on hbz) hnc hcm
  replace hx := hide hx
  replace hbz := hide hbz
  replace hgz := hide hgz
  replace hFc := hide hFc
  replace hF := hide hF
  replace hzs := hide hzs
  go_enter Try.func58, Try.ntmps58
  go_wp2_with fail
  refine hFc.out.mono ?_
  rintro e w2 ⟨A1, c1, A2, c2, rfl, _, _, _, hb2⟩
  have z2 := hb2.size
  obtain ⟨w3, hw3⟩ : ∃ w3, w2.alloc (Four.hdC tos id df mf frag ttl proto false 0 slo false 0 dlo A1 n1 c1) = w3 := ⟨_, rfl⟩
  have hb23 : Below w2.heap.size w2 w3 := hw3 ▸ (Below.refl _ _).alloc (Nat.le_refl _) _
  have hgh : w3.heap[w2.heap.size]? = some (Four.hdC tos id df mf frag ttl proto false 0 slo false 0 dlo A1 n1 c1) := hw3 ▸ blk_new _ _ _
  have hz3 : w2.heap.size < w3.heap.size := by rw [← hw3]; simp
  unfold Four.hdC at hgh hw3
  have hB3 := (hbz.out.trans (hb2.mono (by omega))).trans (hb23.mono (by omega))
  have hg03 := blk_below hb23 (by omega) (blk_below hb2 hz1 hgz.out)
  have hch := blk_cell hgh
  clear hw1 hb2 hb23
  unfold Four.hdV
  replace hgh := hide hgh
  replace hB3 := hide hB3
  replace hg03 := hide hg03
  by_cases hf0 : 0 < frag
  · have t2 : (0 : Int) < (frag : Int) := by omega
    go_upto_region 5 with fail
    clear hw3 hch
    apply wp_region_lit
    refine wpList_plain rfl fun K hK => ?_
    go_simp
    refine hK _ _ ?_
    clear hK K
    refine wpl_st rfl 58 (.tmp 2) (.tmp 27) rfl w.heap.size 0 rfl pkZ rfl hg03.out (by rw [hzz, pkZ_size]; omega) size_pk pkZ_one fun w9 hg9 g9 => ?_
    rw [putA_whole _ _ (by rw [hzz, pkZ_size])] at hg9
    have hB9 := hB3.out.trans (below_grown g9 (by omega) (by omega))
    have hld : (loadVar 58 ⟨w.heap.size, 0, none⟩).run Try.prog w9 = .ok (.agg pkZ) w9 := by
      simpa using run_loadVar_mid w9 w.heap.size 0 58 pkZ.toList _ (blk_range hg9) Try.underlying58 rfl (by rw [size_pk, Array.length_toList, pkZ_size])
    have hfin := end_bad (y := y) 21 (by omega) hB9
    clear g9
    replace hg9 := hide hg9
    replace hB9 := hide hB9
    replace hfin := hide hfin
    replace hld := hide hld
    refine wpList_plain rfl fun K hK => ?_
    go_simp
    refine hK _ _ ?_
    clear hK K
    refine wpList_nil ?_
    go_wp2_with fail
    exact bodyPost_ret (v := .tuple #[.agg pkZ, .int .i64 (21 : Int)]) (by simp [results, Try.results58, asAddr, hld.out, Result.andThen]) rfl hfin.out
  · have t2 : ¬ (0 : Int) < (frag : Int) := by omega
    obtain rfl : mf = true := by rcases hfr with h | h; exact absurd h hf0; exact h
    go_upto_region 5 with fail
    clear hw3 hch
    apply wp_region_lit
    refine wpList_plain rfl fun K hK => ?_
    go_simp
    refine hK _ _ ?_
    clear hK K
    refine wpl_st rfl 58 (.tmp 2) (.tmp 27) rfl w.heap.size 0 rfl pkZ rfl hg03.out (by rw [hzz, pkZ_size]; omega) size_pk pkZ_one fun w9 hg9 g9 => ?_
    rw [putA_whole _ _ (by rw [hzz, pkZ_size])] at hg9
    have hB9 := hB3.out.trans (below_grown g9 (by omega) (by omega))
    have hld : (loadVar 58 ⟨w.heap.size, 0, none⟩).run Try.prog w9 = .ok (.agg pkZ) w9 := by
      simpa using run_loadVar_mid w9 w.heap.size 0 58 pkZ.toList _ (blk_range hg9) Try.underlying58 rfl (by rw [size_pk, Array.length_toList, pkZ_size])
    have hfin := end_bad (y := y) 21 (by omega) hB9
    clear g9
    replace hg9 := hide hg9
    replace hB9 := hide hB9
    replace hfin := hide hfin
    replace hld := hide hld
    refine wpList_plain rfl fun K hK => ?_
    go_simp
    refine hK _ _ ?_
    clear hK K
    refine wpList_nil ?_
    go_wp2_with fail
    exact bodyPost_ret (v := .tuple #[.agg pkZ, .int .i64 (21 : Int)]) (by simp [results, Try.results58, asAddr, hld.out, Result.andThen]) rfl hfin.out
end Pkt
end Go.Proofs.Ytdmgbngdpjcliaa
