/- Plain law: what is parsed of a header's bytes, whatever stands beyond them. Conditions: a header that may be. -/
import Derived.Test.YtdmgbngdpjcliaaFourPlain
import Derived.Test.YtdmgbngdpjcliaaFourBytes
namespace Go.Proofs.Ytdmgbngdpjcliaa
namespace Four
theorem two_back (N : Nat) (h : N < 65536) : (UInt8.ofNat (N / 256)).toNat * 256 + (UInt8.ofNat N).toNat = N := by
  rw [UInt8.toNat_ofNat', UInt8.toNat_ofNat']; omega
theorem four_back (N : Nat) (h : N < 4294967296) : (((UInt8.ofNat (N / 16777216)).toNat * 256 + (UInt8.ofNat (N / 65536)).toNat) * 256 + (UInt8.ofNat (N / 256)).toNat) * 256 + (UInt8.ofNat N).toNat = N := by
  rw [UInt8.toNat_ofNat', UInt8.toNat_ofNat', UInt8.toNat_ofNat', UInt8.toNat_ofNat']; omega
theorem hdB_form (tos id fl ttl proto slo dlo : Nat) (os : List UInt8) (pl : Nat) : ∃ a b : UInt8, hdB tos id fl ttl proto slo dlo os pl =
    UInt8.ofNat (64 + (20 + os.length) / 4) :: UInt8.ofNat tos :: UInt8.ofNat ((20 + os.length + pl) / 256) :: UInt8.ofNat (20 + os.length + pl) :: UInt8.ofNat (id / 256) :: UInt8.ofNat id :: UInt8.ofNat (fl / 256) :: UInt8.ofNat fl :: UInt8.ofNat ttl :: UInt8.ofNat proto :: a :: b ::
    UInt8.ofNat (slo / 16777216) :: UInt8.ofNat (slo / 65536) :: UInt8.ofNat (slo / 256) :: UInt8.ofNat slo :: UInt8.ofNat (dlo / 16777216) :: UInt8.ofNat (dlo / 65536) :: UInt8.ofNat (dlo / 256) :: UInt8.ofNat dlo :: os := by
  obtain ⟨C, hC⟩ : ∃ C, 65535 - Sum.ones (Sum.tot false (hdB0 tos id fl ttl proto slo dlo os pl)) = C := ⟨_, rfl⟩
  refine ⟨UInt8.ofNat (C / 256), UInt8.ofNat C, ?_⟩
  rw [hdB_set _ _ _ _ _ _ _ _ _ _ hC]
  unfold hdB0
  simp only [beB, Nat.pow_zero, Nat.div_one, Nat.pow_one, Nat.reducePow, List.cons_append, List.nil_append, List.set_cons_zero, List.set_cons_succ]
theorem hdB_sum (tos id fl ttl proto slo dlo : Nat) (os : List UInt8) (pl : Nat) : Sum.ones (Sum.tot false (hdB tos id fl ttl proto slo dlo os pl)) = 65535 := by
  unfold hdB
  have h := Sum.tot_set [] (hdB0 tos id fl ttl proto slo dlo os pl) 10 (65535 - Sum.ones (Sum.tot false (hdB0 tos id fl ttl proto slo dlo os pl))) (by omega) (by rw [hdB0_length]; omega) (by simp [hdB0, beB]) (by simp)
  simp only [List.nil_append] at h
  rw [h]
  exact Sum.ones_check _
theorem puts_get (tos id fl ttl proto slo dlo : Nat) (os ps ms : List UInt8) (n m : Nat) (hn : os.length = n) (hm : ps.length = m) (h1 : tos ≤ 255) (h2 : id ≤ 65535) (h3 : fl < 32768) (h4 : ttl ≤ 255) (h5 : proto ≤ 255) (h6 : slo < 4294967296) (h7 : dlo < 4294967296) (h8 : n ≤ 40) (h9 : n % 4 = 0) (h10 : m ≤ 4096)
    (xs : List UInt8) (hxs : (hdB tos id fl ttl proto slo dlo os m ++ ps) ++ ms = xs) :
    (xs.getD 0 0).toNat / 16 = 4 ∧ (xs.getD 0 0).toNat % 16 * 4 = 20 + n ∧ beN xs 2 2 = 20 + n + m ∧ beN xs 6 2 / 32768 = 0 ∧ Sum.ones (Sum.tot false (xs.take (20 + n))) = 65535 ∧
    (xs.getD 1 0).toNat = tos ∧ beN xs 4 2 = id ∧ beN xs 6 2 = fl ∧ (xs.getD 8 0).toNat = ttl ∧ (xs.getD 9 0).toNat = proto ∧ beN xs 12 4 = slo ∧ beN xs 16 4 = dlo ∧ (xs.take (20 + n)).drop 20 = os ∧ (xs.take (20 + n + m)).drop (20 + n) = ps ∧ xs.drop (20 + n) = ps ++ ms := by
  have hl : (hdB tos id fl ttl proto slo dlo os m).length = 20 + n := by rw [hdB_length, hn]
  have e1 : xs.take (20 + n) = hdB tos id fl ttl proto slo dlo os m := by
    rw [← hxs, List.append_assoc, List.take_append_of_le_length (by omega), List.take_of_length_le (by omega)]
  have e2 : xs.drop (20 + n) = ps ++ ms := by
    rw [← hxs, List.append_assoc, ← hl, List.drop_left]
  have e3 : (xs.take (20 + n + m)).drop (20 + n) = ps := by
    rw [List.drop_take, e2, show 20 + n + m - (20 + n) = m by omega, ← hm, List.take_left]
  have e4 := hdB_sum tos id fl ttl proto slo dlo os m
  obtain ⟨a, b, hf⟩ := hdB_form tos id fl ttl proto slo dlo os m
  rw [hf] at hxs e1
  rw [e1, ← hf, e4, hf]
  refine ⟨?_, ?_, ?_, ?_, rfl, ?_, ?_, ?_, ?_, ?_, ?_, ?_, rfl, e3, e2⟩
  all_goals
    rw [← hxs]
    simp only [beN, List.cons_append, List.getD_cons_zero, List.getD_cons_succ, Nat.zero_mul, Nat.zero_add, Nat.add_zero, Nat.reduceAdd]
  · rw [UInt8.toNat_ofNat']; omega
  · rw [UInt8.toNat_ofNat']; omega
  · rw [hn]; exact two_back _ (by omega)
  · rw [two_back _ (by omega)]; omega
  · rw [UInt8.toNat_ofNat']; omega
  · exact two_back _ (by omega)
  · exact two_back _ (by omega)
  · rw [UInt8.toNat_ofNat']; omega
  · rw [UInt8.toNat_ofNat']; omega
  · exact four_back _ h6
  · exact four_back _ h7
theorem fl_parts (df mf : Bool) (frag fl : Nat) (hf : frag ≤ 8191) (h : flI df mf frag = (fl : Int)) : fl < 32768 ∧ decide (fl / 16384 % 2 = 1) = df ∧ decide (fl / 8192 % 2 = 1) = mf ∧ fl % 8192 = frag := by
  unfold flI at h
  rcases df with _ | _ <;> rcases mf with _ | _ <;> simp only [Bool.false_eq_true, if_false, if_true, Int.add_zero] at h <;> (refine ⟨by omega, ?_, ?_, by omega⟩ <;> simp <;> omega)
end Four
end Go.Proofs.Ytdmgbngdpjcliaa
