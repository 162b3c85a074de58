/- The statement IcmpParses, walked: whatever the bytes are, the call returns true and leaves what was there. Conditions: slices of bytes that read as lists. -/
import Derived.Test.YtfmmmjaficbchaaQNatFlows4
import Derived.Test.YtfmmmjaficbchaaQNatFlows2
import Derived.Test.YtfmmmjaficbchaaQNatFlows6
import Derived.Test.YtfmmmjaficbchaaQNatFlows17
import Derived.Test.YtfmmmjaficbchaaQNatFlows9
import Derived.Test.YtfmmmjaficbchaaQNatFlows12
import Derived.Test.YtfmmmjaficbchaaQNatFlows13
import Derived.Test.YtfmmmjaficbchaaQNatFlows18
import Derived.Test.YtfmmmjaficbchaaQNatFlows14
import Derived.Test.YtfmmmjaficbchaaQNatFlows1
import Derived.Test.YtfmmmjaficbchaaQNatFlows16
import Derived.Test.YtfmmmjaficbchaaQNatFlows15
import Derived.Test.YtfmmmjaficbchaaQNatFlows19
import Derived.Deep.DeepCutAuto
namespace Go.Proofs.Ytfmmmjaficbchaa
open Go.RowKit Go.ChangeShapes Go.WideShapes Go.ChangeAt Go.Deep
namespace Icmp
theorem word_eq (a b c d : Nat) : ((a * 256 + b) * 256 + c) * 256 + d = a * 16777216 + b * 65536 + c * 256 + d := by omega
end Icmp
end Go.Proofs.Ytfmmmjaficbchaa
/- The statement IcmpPuts, walked: any message's bytes, and that they are parsed as they were put. Conditions: slices of bytes that read as lists. -/
namespace Go.Proofs.Ytfmmmjaficbchaa
open Go.RowKit Go.ChangeShapes Go.WideShapes Go.ChangeAt Go.Deep
namespace Icmp
/-! ### Plain -/
theorem head0_length (t k wd : Nat) (xs : List UInt8) : (head0 t k wd xs).length = xs.length + 8 := by simp [head0, beB_length]; omega
theorem msgB_length (ps : List UInt8) (t k wd : Nat) (xs : List UInt8) : (msgB ps t k wd xs).length = xs.length + 8 := by
  unfold msgB
  rw [setB_length _ _ _ (by rw [beB_length, head0_length]; omega), head0_length]
theorem msgB_sum (ps : List UInt8) (t k wd : Nat) (xs : List UInt8) (he : ps.length % 2 = 0) : Sum.ones (Sum.tot false (ps ++ msgB ps t k wd xs)) = 65535 := by
  unfold msgB
  rw [Sum.tot_set ps (head0 t k wd xs) 2 _ (by omega) (by rw [head0_length]; omega) (by simp [head0]) (by omega)]
  exact Sum.ones_check _
theorem msgB_form (ps : List UInt8) (t k wd : Nat) (xs : List UInt8) : ∃ a b, msgB ps t k wd xs = [UInt8.ofNat t, UInt8.ofNat k, a, b] ++ (beB wd 4 ++ xs) ∧
    a = UInt8.ofNat ((65535 - Sum.ones (Sum.tot false (ps ++ head0 t k wd xs))) / 256) ∧ b = UInt8.ofNat (65535 - Sum.ones (Sum.tot false (ps ++ head0 t k wd xs))) := by
  refine ⟨_, _, ?_, rfl, rfl⟩
  unfold msgB
  generalize 65535 - Sum.ones (Sum.tot false (ps ++ head0 t k wd xs)) = c
  simp [setB, head0, beB]
theorem msgB_get (ps : List UInt8) (t k wd : Nat) (xs : List UInt8) (ht : t ≤ 255) (hk : k ≤ 255) (hwd : wd < 4294967296) :
    ((msgB ps t k wd xs).getD 0 0).toNat = t ∧ ((msgB ps t k wd xs).getD 1 0).toNat = k ∧ beN (msgB ps t k wd xs) 4 4 = wd ∧ (msgB ps t k wd xs).drop 8 = xs := by
  obtain ⟨a, b, e, _, _⟩ := msgB_form ps t k wd xs
  rw [e]
  refine ⟨?_, ?_, beN_put wd 4 _ xs 4 rfl hwd, ?_⟩
  · simp; omega
  · simp; omega
  · simp [beB]
/-! ### The walk -/
theorem msgB_set (ps : List UInt8) (t k wd : Nat) (xs : List UInt8) : msgB ps t k wd xs = ((head0 t k wd xs).set 2 (UInt8.ofNat ((65535 - Sum.ones (Sum.tot false (ps ++ head0 t k wd xs))) / 256))).set 3 (UInt8.ofNat (65535 - Sum.ones (Sum.tot false (ps ++ head0 t k wd xs)))) := by
  unfold msgB
  generalize 65535 - Sum.ones (Sum.tot false (ps ++ head0 t k wd xs)) = c
  simp [setB, head0, beB]
end Icmp
end Go.Proofs.Ytfmmmjaficbchaa
/- What is quoted of a datagram that was cut. No condition on the world. -/
namespace Go.Proofs.Ytfmmmjaficbchaa
open Go.RowKit Go.ChangeShapes Go.WideShapes Go.ChangeAt Go.Deep
namespace Pkt
theorem quoted4 (slo dlo s d : Nat) (D : List UInt8) (hD : D.length ≤ 4096) (hs : beN D 0 2 = s) (hd : beN D 2 2 = d) (h6 : slo < 4294967296) (h7 : dlo < 4294967296) (k : Nat) (ds : List UInt8) (hds : (Four.hdB 0 0 0 64 17 slo dlo [] D.length ++ D).take k = ds) :
    (ds.length < 24 → Icmp.QuotedIs false 3 ds 2 0 false 0 0 false 0 0 0 0) ∧ (24 ≤ ds.length → Icmp.QuotedIs false 3 ds 0 17 false 0 slo false 0 dlo s d) := by
  obtain ⟨U, hU⟩ : ∃ U, Four.hdB 0 0 0 64 17 slo dlo [] D.length ++ D = U := ⟨_, rfl⟩
  obtain ⟨k1, k2, k3, k4, k5, k6, k7, k8, k9, k10, k11, k12, k13, k14, k15⟩ := Four.puts_get 0 0 0 64 17 slo dlo [] D [] 0 D.length rfl rfl (by omega) (by omega) (by omega) (by omega) (by omega) h6 h7 (by omega) (by omega) hD U (by rw [List.append_nil]; exact hU)
  rw [hU] at hds
  have hUl : U.length = 20 + D.length := by rw [← hU, List.length_append, Four.hdB_length]; rfl
  have hl : ds.length = min k (20 + D.length) := by rw [← hds, List.length_take, hUl]
  have hE : Icmp.errB false 3 = true := by decide
  have get : ∀ i, i < ds.length → ds.getD i 0 = U.getD i 0 := fun i hi => by rw [← hds, Six.getD_take U k i (by omega)]
  have ben : ∀ p j, p + j ≤ ds.length → beN ds p j = beN U p j := fun p j hj => by rw [← hds, Six.beN_take U k p j (by omega)]
  by_cases h20 : ds.length < 20
  · refine ⟨fun _ cd wd A c W hx hc hcm => ?_, fun h => absurd h (by omega)⟩
    exact Icmp.quoted_fail false 3 cd wd A ds.length c ds W hx hc hcm (by omega) hE 2 0 0 0 0 0 0 [] (by
      unfold Icmp.QIs
      rw [if_neg (by simp)]
      exact ⟨by unfold Four.quoteK; rw [if_pos h20], fun h => absurd h (by omega)⟩) (by omega)
  have hQ : Icmp.QIs false ds.length ds 0 17 0 slo 0 dlo 0 (ds.drop 20) := by
    unfold Icmp.QIs
    rw [if_neg (by simp)]
    have g0 := get 0 (by omega)
    refine ⟨?_, fun _ => ⟨by rw [get 9 (by omega), k10], rfl, by rw [ben 12 4 (by omega), k11], rfl, by rw [ben 16 4 (by omega), k12], by rw [ben 6 2 (by omega), k8], by rw [g0, k2]⟩⟩
    unfold Four.quoteK
    rw [if_neg h20, g0, k2, if_neg (fun h => h k1), if_neg (by omega)]
  have hrl : (ds.drop 20).length = ds.length - 20 := List.length_drop
  obtain ⟨F, hF⟩ : ∃ F, Icmp.flowK 0 17 (ds.drop 20).length = F := ⟨_, rfl⟩
  have hq := fun (cd wd : Int) (A : Option Addr) (c : Nat) (W : World) (hx : IsB W W.heap.size A ds.length ds) (hc : ds.length ≤ c) (hcm : c ≤ maxLen) =>
    Icmp.quoted_ok false 3 cd wd A ds.length c ds W hx hc hcm (by omega) hE 17 0 slo 0 dlo 0 (ds.drop 20) hQ (by unfold maxLen; omega) F hF
  have hFv : F = if ds.length < 24 then 2 else 0 := by
    rw [← hF, hrl]
    unfold Icmp.flowK
    rw [if_neg (by omega), if_neg (by omega)]
    split <;> split <;> omega
  refine ⟨fun h cd wd A c W hx hc hcm => ?_, fun h cd wd A c W hx hc hcm => ?_⟩
  · rw [if_pos h] at hFv
    refine (hq cd wd A c W hx hc hcm).mono ?_
    rintro e w' ⟨h1, _, hb⟩
    rw [h1 (by omega), hFv]
    exact ⟨rfl, hb⟩
  · rw [if_neg (by omega)] at hFv
    refine (hq cd wd A c W hx hc hcm).mono ?_
    rintro e w' ⟨_, h2, hb⟩
    have e15 : ds.drop 20 = D.take (k - 20) := by
      rw [← hds, List.drop_take, k15, List.append_nil]
    rw [h2 hFv, e15, Six.beN_take D _ 0 2 (by omega), Six.beN_take D _ 2 2 (by omega), hs, hd]
    exact ⟨rfl, hb⟩
theorem chain17 (rs : List UInt8) : Six.chainF 9 17 rs [] = some ([], 17, rs) := by
  unfold Six.chainF
  rw [if_pos (by decide)]
theorem quoted6 (shi slo dhi dlo s d : Nat) (D : List UInt8) (hD : D.length ≤ 4096) (hs : beN D 0 2 = s) (hd : beN D 2 2 = d) (h4 : shi < 18446744073709551616) (h5 : slo < 18446744073709551616) (h6 : dhi < 18446744073709551616) (h7 : dlo < 18446744073709551616) (k : Nat) (ds : List UInt8) (hds : (Six.allB6 0 0 64 shi slo dhi dlo 17 [] D).take k = ds) :
    (ds.length < 44 → Icmp.QuotedIs true 1 ds 2 0 false 0 0 false 0 0 0 0) ∧ (44 ≤ ds.length → Icmp.QuotedIs true 1 ds 0 17 true shi slo true dhi dlo s d) := by
  obtain ⟨U, hU⟩ : ∃ U, Six.allB6 0 0 64 shi slo dhi dlo 17 [] D = U := ⟨_, rfl⟩
  have hr : Six.rightHB 0 0 64 true true 17 [] = true := by decide
  obtain ⟨g1, g2, g2', g2'', g3, g4, g5, g6, g7, g8, g9⟩ := Six.puts_parse 0 0 64 shi slo dhi dlo 17 [] D [] U hr h4 h5 h6 h7 hD (by rw [List.append_nil]; exact hU)
  have hUl : U.length = 40 + D.length := by rw [← hU, Six.allB6_length]; rfl
  have u0 : U.getD 0 0 = 96 := by rw [← hU]; rfl
  have u6 : U.getD 6 0 = 17 := by rw [← hU]; rfl
  rw [hU] at hds
  have hl : ds.length = min k (40 + D.length) := by rw [← hds, List.length_take, hUl]
  have hE : Icmp.errB true 1 = true := by decide
  have get : ∀ i, i < ds.length → ds.getD i 0 = U.getD i 0 := fun i hi => by rw [← hds, Six.getD_take U k i (by omega)]
  have ben : ∀ p j, p + j ≤ ds.length → beN ds p j = beN U p j := fun p j hj => by rw [← hds, Six.beN_take U k p j (by omega)]
  by_cases h40 : ds.length < 40
  · refine ⟨fun _ cd wd A c W hx hc hcm => ?_, fun h => absurd h (by omega)⟩
    exact Icmp.quoted_fail true 1 cd wd A ds.length c ds W hx hc hcm (by omega) hE 2 0 0 0 0 0 0 [] (by
      unfold Icmp.QIs
      rw [if_pos rfl]
      exact ⟨by unfold Six.quoteK; rw [if_pos h40], fun h => absurd h (by omega)⟩) (by omega)
  have e6 : (ds.getD 6 0).toNat = 17 := by rw [get 6 (by omega), u6]; rfl
  have hR : Six.quoteR ds = some ([], 17, ds.drop 40) := by unfold Six.quoteR; rw [e6]; exact chain17 _
  have hQ : Icmp.QIs true ds.length ds 0 17 shi slo dhi dlo 0 (ds.drop 40) := by
    unfold Icmp.QIs
    rw [if_pos rfl]
    refine ⟨?_, fun _ => ⟨[], hR, rfl, by rw [ben 8 8 (by omega), g6], by rw [ben 16 8 (by omega), g7], by rw [ben 24 8 (by omega), g8], by rw [ben 32 8 (by omega), g9]⟩⟩
    have e0 : (ds.getD 0 0).toNat / 16 = 6 := by rw [get 0 (by omega), u0]; rfl
    unfold Six.quoteR at hR
    unfold Six.quoteK
    rw [if_neg h40, if_neg (fun h => h e0), hR]
    rfl
  have hrl : (ds.drop 40).length = ds.length - 40 := List.length_drop
  obtain ⟨F, hF⟩ : ∃ F, Icmp.flowK 0 17 (ds.drop 40).length = F := ⟨_, rfl⟩
  have hq := fun (cd wd : Int) (A : Option Addr) (c : Nat) (W : World) (hx : IsB W W.heap.size A ds.length ds) (hc : ds.length ≤ c) (hcm : c ≤ maxLen) =>
    Icmp.quoted_ok true 1 cd wd A ds.length c ds W hx hc hcm (by omega) hE 17 shi slo dhi dlo 0 (ds.drop 40) hQ (by unfold maxLen; omega) F hF
  have hFv : F = if ds.length < 44 then 2 else 0 := by
    rw [← hF, hrl]
    unfold Icmp.flowK
    rw [if_neg (by omega), if_neg (by omega)]
    split <;> split <;> omega
  have e15 : U.drop 40 = D := by
    have := g2'
    unfold Six.quoteR at this
    rw [show (U.getD 6 0).toNat = 17 by rw [u6]; rfl, chain17] at this
    simpa using this
  refine ⟨fun h cd wd A c W hx hc hcm => ?_, fun h cd wd A c W hx hc hcm => ?_⟩
  · rw [if_pos h] at hFv
    refine (hq cd wd A c W hx hc hcm).mono ?_
    rintro e w' ⟨h1, _, hb⟩
    rw [h1 (by omega), hFv]
    exact ⟨rfl, hb⟩
  · rw [if_neg (by omega)] at hFv
    refine (hq cd wd A c W hx hc hcm).mono ?_
    rintro e w' ⟨_, h2, hb⟩
    have e16 : ds.drop 40 = D.take (k - 40) := by
      rw [← hds, List.drop_take, e15]
    rw [h2 hFv, e16, Six.beN_take D _ 0 2 (by omega), Six.beN_take D _ 2 2 (by omega), hs, hd]
    exact ⟨rfl, hb⟩
/-- What upper makes of a message of an error. -/
theorem upis_msg (cs : Array Value) (hcs : cs.size = 23) (hone : cs.all (·.oneCell') = true) (v6 : Bool) (h0 : cs[0]? = some (.bool v6)) (h1 : cs[1]? = some (.int .i64 (if v6 = true then 58 else 1))) (ps ds : List UInt8) (hps : ps.length ≤ 4096) (hpe : ps.length % 2 = 0) (hds : ds.length ≤ 4096) (ty : Nat) (hty : ty ≤ 255)
    (K2 : Nat) (qr : Int) (sv : Bool) (sh sl : Int) (dv : Bool) (dh dl sp dp : Int) (hQ : Icmp.QuotedIs v6 ty ds K2 qr sv sh sl dv dh dl sp dp) :
    UpIs cs (if v6 = true then 58 else 1) (Icmp.msgB (aheadP v6 ps) ty 0 0 ds) ps K2 (errA cs (tuA qr dv dh dl sv sh sl dp sp)) := by
  intro A P c d w hx hp hc hcm
  have hml := Icmp.msgB_length (aheadP v6 ps) ty 0 0 ds
  have hal : (aheadP v6 ps).length % 2 = 0 ∧ (aheadP v6 ps).length ≤ 4096 := by
    unfold aheadP
    split
    · exact ⟨hpe, hps⟩
    · exact ⟨rfl, by simp⟩
  obtain ⟨g1, g2, g3, g4⟩ := Icmp.msgB_get (aheadP v6 ps) ty 0 0 ds hty (by omega) (by omega)
  have hP : Icmp.ParseIs (Icmp.msgB (aheadP v6 ps) ty 0 0 ds) (aheadP v6 ps) 0 ty 0 0 ds := by
    intro A P c d W hx hp hc hcm
    refine (Icmp.parse_ok A P _ c _ d _ _ W hx hp (by omega) hc (by omega) (by unfold maxLen; omega) (Icmp.msgB_sum (aheadP v6 ps) ty 0 0 ds hal.1)).mono ?_
    rintro e w' ⟨A', m', c', rfl, hi, h1, h2, hb⟩
    rw [g4] at hi
    obtain rfl : ds.length = m' := hi.1
    refine ⟨A', c', ?_, hi, h1, h2, hb⟩
    unfold Icmp.msgV
    rw [g1, g2, g3]
    rfl
  have := upper_err cs hcs hone v6 h0 _ h1 (if v6 = true then 58 else 1) A P c d _ ps w hx hp hc hcm (by omega) (by unfold maxLen; omega) (by split <;> omega) (by split <;> omega) rfl 0 ty 0 0 ds hP K2 qr sv sh sl dv dh dl sp dp hQ
  rw [show (if (0 : Nat) ≠ 0 then (0 : Nat) else K2) = K2 from rfl] at this
  exact this
end Pkt
end Go.Proofs.Ytfmmmjaficbchaa
/- pkt.Unreach by contract. Conditions: a slice of bytes that reads as a list, at most 4000 bytes; what pkt.Parse makes of them is known. -/
namespace Go.Proofs.Ytfmmmjaficbchaa
open Go.RowKit Go.ChangeShapes Go.WideShapes Go.ChangeAt Go.Deep
namespace Pkt
end Pkt
end Go.Proofs.Ytfmmmjaficbchaa
/- The statement PktTells, walked. Conditions: what pkt.Datagram, pkt.Unreach and pkt.Parse make of the bytes is known. (Written by gen_pkttells.py) -/
namespace Go.Proofs.Ytfmmmjaficbchaa
open Go.RowKit Go.ChangeShapes Go.WideShapes Go.ChangeAt Go.Deep
namespace Pkt
theorem pcut_b (A : Option Addr) (n c n1 : Nat) (w : World) (hn : n ≤ maxLen) (hc : n ≤ c) (h1 : min n 500 = n1) :
    Calls Try.prog 10 #[.slice A n c] w fun e w' => e = .returned (.slice A n1 c) ∧ Below w.heap.size w w' :=
  (Tun.pcut_as A n c n1 w hn hc h1).mono fun _ _ h => ⟨h.1, h.2 ▸ Below.refl _ _⟩
end Pkt
end Go.Proofs.Ytfmmmjaficbchaa
/- Plain: a datagram of version 4 without a check, and what comes of it. Conditions: numbers of their sizes, at most 4000 bytes. -/
namespace Go.Proofs.Ytfmmmjaficbchaa
open Go.RowKit Go.ChangeShapes Go.WideShapes Go.ChangeAt Go.Deep
namespace Nat15
open Pkt (aheadB wrapB dgU sgU dgU_length sgU_length)
theorem beN_zero2 (xs : List UInt8) (p : Nat) (h : p + 2 ≤ xs.length) : beN (setB xs p [0, 0]) p 2 = 0 := by
  have := beN_setB2 xs p 0 h (by omega)
  rwa [show beB 0 2 = [0, 0] from rfl] at this
theorem up_bare (slo dlo s d : Nat) (xs : List UInt8) (hs : s ≤ 65535) (hd : d ≤ 65535) (hl : xs.length ≤ 4000) : Up false true (aheadB false 0 slo 0 dlo 17 (8 + xs.length)) (setB (dgU false 0 slo 0 dlo s d xs) 6 [0, 0]) s d 0 := by
  have h := up_dg false 0 slo 0 dlo s d xs hs hd hl
  have hl2 := dgU_length false 0 slo 0 dlo s d xs
  obtain ⟨U, hU⟩ : ∃ U, dgU false 0 slo 0 dlo (s : Int) (d : Int) xs = U := ⟨_, rfl⟩
  rw [hU] at h hl2 ⊢
  have w6 : whR true = 6 := rfl
  have l1 : (setB U 6 [0, 0]).length = U.length := setB_length _ _ _ (by simp; omega)
  have gd : ∀ p, p + 2 ≤ 6 → beN (setB U 6 [0, 0]) p 2 = beN U p 2 := fun p hp => beN_congr _ _ _ _ fun i a b => setB_getD_out _ _ _ (by simp; omega) i (.inl (by omega))
  refine ⟨by rw [l1]; exact h.len, ?_, by rw [gd 0 (by omega)]; exact h.sp, by rw [gd 2 (by omega)]; exact h.dp, h.fl⟩
  have hK := h.K
  rw [if_pos rfl] at hK ⊢
  unfold Udp.parseK at hK ⊢
  rw [l1, gd 4 (by omega), beN_zero2 U 6 (by omega)]
  split at hK
  · omega
  rename_i h1
  rw [if_neg h1]
  split at hK
  · omega
  rename_i h2
  rw [if_neg h2, if_pos (by simp)]
  rfl
/-- A datagram of version 4 without a check can be turned. -/
theorem turn_bare (slo dlo s d ttl : Nat) (xs : List UInt8) (n : Nat) (hn : 28 + xs.length = n) (h1 : slo < 4294967296) (h2 : dlo < 4294967296) (ht : ttl ≤ 255) (hs : s ≤ 65535) (hd : d ≤ 65535) (hl : xs.length ≤ 4000) :
    Turn4 n (setB (wrapB false 0 slo 0 dlo 17 ttl (dgU false 0 slo 0 dlo s d xs)) 26 [0, 0]) n 20 true (setB (dgU false 0 slo 0 dlo s d xs) 6 [0, 0]) slo dlo s d ttl 0 := by
  have hl2 := dgU_length false 0 slo 0 dlo s d xs
  have l1 : (setB (dgU false 0 slo 0 dlo (s : Int) (d : Int) xs) 6 [0, 0]).length = 8 + xs.length := by rw [setB_length _ _ _ (by simp; omega)]; exact hl2
  have hw : setB (wrapB false 0 slo 0 dlo 17 ttl (dgU false 0 slo 0 dlo s d xs)) 26 [0, 0] = wrapB false 0 slo 0 dlo (prN true) ttl (setB (dgU false 0 slo 0 dlo s d xs) 6 [0, 0]) := by
    unfold wrapB
    rw [if_neg (by simp), if_neg (by simp), l1, hl2]
    exact setB_right _ _ _ 6 26 (by rw [Four.hdB_length]; rfl)
  rw [hw]
  refine turn_wrap4 slo dlo ttl true _ n s d 0 (by omega) h1 h2 ht (by omega) ?_
  rw [l1]
  exact up_bare slo dlo s d xs hs hd hl
/-- What comes of it has none. -/
theorem bare_stays {n : Nat} {xs : List UInt8} {R : List UInt8} {slo dlo sp dp ttl fl : Nat} (h : Turn4 n xs n 20 true R slo dlo sp dp ttl fl) (hb : beN R 6 2 = 0) (tlo port was : Nat) (ht : tlo < 4294967296) :
    ((natB4 xs n 20 true R 1 tlo port was).getD 26 0).toNat = 0 ∧ ((natB4 xs n 20 true R 1 tlo port was).getD 27 0).toNat = 0 := by
  obtain ⟨s1, s2, s3, s4, s5, s6, s7, s8, s9⟩ := h.sizes
  have hl := h.up.len
  have w6 : whR true = 6 := rfl
  have hH : (turnH4 (xs.take 20) 1 tlo).length = 20 := by
    rw [(turnH4_get (xs.take 20) 1 tlo (by omega) (by rw [List.length_take]; omega) ht).1, List.length_take]
    omega
  have hr : turnR true R 1 port (splitN was 2) (splitN tlo 2) = setB R 2 (beB port 2) := by
    unfold turnR
    rw [if_pos ⟨rfl, hb⟩]
  have e : ∀ i, i = 6 ∨ i = 7 → (natB4 xs n 20 true R 1 tlo port was).getD (20 + i) 0 = R.getD i 0 := by
    intro i hi
    unfold natB4
    rw [hr]
    generalize turnH4 (xs.take 20) 1 tlo = H at hH
    have hg := getD_right H (setB R 2 (beB port 2)) i
    rw [hH] at hg
    rw [hg]
    exact setB_getD_out _ _ _ (by rw [beB_length]; omega) i (.inr (by rw [beB_length]; omega))
  rw [show 26 = 20 + 6 from rfl, show 27 = 20 + 7 from rfl, e 6 (.inl rfl), e 7 (.inr rfl)]
  have hb2 : 256 * (R.getD 6 0).toNat + (R.getD 7 0).toNat = 0 := (beN2 R 6).symm.trans hb
  omega
end Nat15
end Go.Proofs.Ytfmmmjaficbchaa
/- The statement NatBare, walked. Conditions: a slice of bytes that reads as a list, what pkt.Datagram, nat.Turn and pkt.Parse make is known. -/
namespace Go.Proofs.Ytfmmmjaficbchaa
open Go.RowKit Go.ChangeShapes Go.WideShapes Go.ChangeAt Go.Deep
namespace Nat15
open Pkt (InEnd End2 pkZ IsG pkG alloc_pk size_pk pkZ_size pkZ_one PIs pkG_one pkA pkA_one tuA tuA_one wrapB dgU)
theorem set2_setB (xs : List UInt8) (p : Nat) (a b : UInt8) (h : p + 2 ≤ xs.length) : (xs.set p a).set (p + 1) b = setB xs p [a, b] := by
  apply List.ext_getElem?
  intro i
  by_cases h1 : i = p
  · subst h1
    rw [List.getElem?_set_ne (by omega), List.getElem?_set_self (by omega)]
    have := setB_get_in xs i [a, b] (by simp; omega) 0 (by simp)
    rw [Nat.add_zero] at this
    rw [this]
    rfl
  by_cases h2 : i = p + 1
  · subst h2
    rw [List.getElem?_set_self (by rw [List.length_set]; omega), setB_get_in xs p [a, b] (by simp; omega) 1 (by simp)]
    rfl
  · rw [List.getElem?_set_ne (by omega), List.getElem?_set_ne (by omega)]
    exact (setB_get_out xs p [a, b] (by simp; omega) i (by simp; omega)).symm
set_option maxRecDepth 20000 in
set_option maxHeartbeats 8000000 in
theorem bare_awake (n0 n c K0 : Nat) (xs U : List UInt8) (pr : Int) (sv : Bool) (shi slo : Int) (dv : Bool) (dhi dlo sp dp : Int) (tv : Bool) (thi tlo : Int) (port : Int) (hK0 : K0 ≠ 0 ∨ sv = true) (A : Option Addr) (w : World) (hx : IsB w w.heap.size A n xs) (hn : min n0 500 = n) (hnc : n0 ≤ c) (hcm : c ≤ maxLen)
    (hD : ∀ w : World, IsB w w.heap.size A n xs → Calls Try.prog 16 #[.agg (tuA pr sv shi slo dv dhi dlo sp dp), .int .i64 64, .slice A n c] w fun e w' => InEnd K0 U w w' e) :
    Calls Try.prog 4 #[.agg (tuA pr sv shi slo dv dhi dlo sp dp), .slice A n0 c, .agg #[.bool tv, .int .u64 thi, .int .u64 tlo], .int .i64 port] w fun e w' => e = .returned (.bool true) ∧ Below w.heap.size w w' := by
  obtain ⟨w1, hw1⟩ : ∃ w1, w.alloc (.cells (tuA pr sv shi slo dv dhi dlo sp dp) 32) = w1 := ⟨_, rfl⟩
  obtain ⟨w2, hw2⟩ : ∃ w2, w1.alloc (.cells #[.bool tv, .int .u64 thi, .int .u64 tlo] 26) = w2 := ⟨_, rfl⟩
  have hb1 : Below w.heap.size w w1 := hw1 ▸ (Below.refl _ _).alloc (Nat.le_refl _) _
  have hb2 : Below w1.heap.size w1 w2 := hw2 ▸ (Below.refl _ _).alloc (Nat.le_refl _) _
  have hgt := blk_on hb2 (hw1 ▸ blk_new w 32 (tuA pr sv shi slo dv dhi dlo sp dp))
  have hB := hb1.trans (hb2.mono hb1.size)
  have zt := blk_lt hgt
  have hn0 : n0 ≤ maxLen := by omega
  have hCut := fun l : Later w2 => Pkt.pcut_b A n0 c n l.w hn0 hnc hn
  clear hb1 hb2
  unfold tuA at hw1 hgt hD ⊢
  replace hx := hide hx
  replace hD := hide hD
  replace hn := hide hn
  replace hCut := hide hCut
  replace hK0 := hide hK0
  replace hB := hide hB
  replace hgt := hide hgt
  go_enter Try.func4, Try.ntmps4
  go_upto_region 1 with fail
  clear hw1 hw2
  have hcl := fun (l : Later w2) (o : Nat) => blk_cell (blk_below l.hb zt hgt.out) o
  refine wp_region_L (by as_aux_lemma => kernel_rfl) ?_
  refine wpE_seg 0 3 (fuel := 6) (by as_aux_lemma => kernel_rfl) (fun d _ _ _ _ h => by cases d <;> exact h) (by as_aux_lemma => kernel_rfl) (by as_aux_lemma => kernel_rfl) ?_
  simp only [List.drop_zero, List.take_succ_cons, List.take_zero]
  iterate 2 (refine wpQE_step (fun K hK => ?_); go_simp; refine hK _ ?_; clear hK K)
  (refine wpQE_step (fun K hK => ?_); go_simp; apply Exists.intro; refine ⟨fun l => ?_, hK _ ?_⟩; (go_at_call 10; refine (hCut.out l).mono ?_; rintro e w' ⟨rfl, hb⟩; exact ⟨rfl, hb⟩); clear hK K)
  refine wpQE_nil ?_
  clear hcl hCut
  refine wpE_step 3 (fuel := 5) rfl (by as_aux_lemma => kernel_rfl) (fun l K hK => ?_)
  go_simp
  have hBl := hB.out.trans (l.hb.mono hB.out.size)
  have hb1 := l.hb
  go_at_call 16
  refine (hD.out _ (hx.out.on hBl)).mono ?_
  rintro e w3 ⟨v3, rfl, -, -, hb3⟩
  refine hK _ _ hb3 ?_
  clear hK K
  refine wpE_seg 4 5 (fuel := 0) (by as_aux_lemma => kernel_rfl) (fun d _ _ _ _ h => by cases d <;> exact h) (by as_aux_lemma => kernel_rfl) (by as_aux_lemma => kernel_rfl) ?_
  simp only [List.drop_succ_cons, List.drop_zero, List.take_succ_cons, List.take_zero]
  iterate 5 (refine wpQE_step (fun K hK => ?_); go_simp; refine hK _ ?_; clear hK K)
  refine wpQE_nil ?_
  refine wpE_done (by as_aux_lemma => kernel_rfl) (fun w4 hb4 => ?_) 0
  have hb5 := hb1.trans ((hb3.mono hb1.size).trans (hb4.mono (Nat.le_trans hb1.size hb3.size)))
  clear hb1 hb3 hb4 hBl
  replace hB := hide (hB.out.trans (hb5.mono hB.out.size))
  replace hgt := hide (blk_on hb5 hgt.out)
  clear hb5
  have hct := blk_cell hgt.out
  by_cases hk : K0 = 0
  · obtain rfl : sv = true := by
      rcases hK0.out with h | h
      · exact absurd hk h
      · exact h
    subst hk
    go_wp2_with fail
    refine (awake_any _).mono ?_
    rintro e w10 ⟨rfl, hb10⟩
    replace hB := hide (hB.out.trans (hb10.mono hB.out.size))
    replace hgt := hide (blk_on hb10 hgt.out)
    clear hb10
    clear hct
    go_wp2_with fail
    go_ret
    exact ⟨by rfl, hB.out⟩
  · have t1 : ((K0 : Int) != 0) = true := by rw [bne_iff_ne]; omega
    go_wp2_with fail
    refine (awake_any _).mono ?_
    rintro e w10 ⟨rfl, hb10⟩
    replace hB := hide (hB.out.trans (hb10.mono hB.out.size))
    replace hgt := hide (blk_on hb10 hgt.out)
    clear hb10
    clear hct
    go_wp2_with fail
    go_ret
    exact ⟨by rfl, hB.out⟩
end Nat15
end Go.Proofs.Ytfmmmjaficbchaa
/- The statement NatBare, where there is a datagram of version 4. Conditions: what pkt.Datagram, nat.Turn and pkt.Parse make is known. -/
namespace Go.Proofs.Ytfmmmjaficbchaa
open Go.RowKit Go.ChangeShapes Go.WideShapes Go.ChangeAt Go.Deep
namespace Nat15
open Pkt (InEnd End2 pkZ IsG pkG alloc_pk size_pk pkZ_size pkZ_one PIs pkG_one pkA pkA_one tuA tuA_one wrapB dgU)
set_option maxRecDepth 20000 in
set_option maxHeartbeats 8000000 in
theorem bare_no (n0 n c m : Nat) (xs U V X : List UInt8) (pr : Int) (shi slo : Int) (dv : Bool) (dhi dlo sp dp : Int) (KT : Nat) (hKT : KT ≠ 0) (tv : Bool) (thi tlo : Int) (port : Int) (hbad : port < 0 ∨ 65535 < port ∨ tv = true ∨ Four.okA tv thi tlo = false) (A : Option Addr) (w : World) (hx : IsB w w.heap.size A n xs) (hn : min n0 500 = n) (hnc : n0 ≤ c) (hcm : c ≤ maxLen) (hUl : U.length = m) (hm : 28 ≤ m) (hm2 : m ≤ 4000) (hV : setB U 26 [0, 0] = V)
    (hD : ∀ w : World, IsB w w.heap.size A n xs → Calls Try.prog 16 #[.agg (tuA pr false shi slo dv dhi dlo sp dp), .int .i64 64, .slice A n c] w fun e w' => InEnd 0 U w w' e)
    (hT : ∀ (A : Option Addr) (c : Nat) (w : World), IsB w w.heap.size A m V → m ≤ c → c ≤ maxLen → Calls Try.prog 11 #[.slice A m c, .int .i64 1, .agg #[.bool tv, .int .u64 thi, .int .u64 tlo], .int .i64 port] w fun en w' => InEnd KT X w w' en) :
    Calls Try.prog 4 #[.agg (tuA pr false shi slo dv dhi dlo sp dp), .slice A n0 c, .agg #[.bool tv, .int .u64 thi, .int .u64 tlo], .int .i64 port] w fun e w' => e = .returned (.bool true) ∧ Below w.heap.size w w' := by
  obtain ⟨w1, hw1⟩ : ∃ w1, w.alloc (.cells (tuA pr false shi slo dv dhi dlo sp dp) 32) = w1 := ⟨_, rfl⟩
  obtain ⟨w2, hw2⟩ : ∃ w2, w1.alloc (.cells #[.bool tv, .int .u64 thi, .int .u64 tlo] 26) = w2 := ⟨_, rfl⟩
  have hb1 : Below w.heap.size w w1 := hw1 ▸ (Below.refl _ _).alloc (Nat.le_refl _) _
  have hb2 : Below w1.heap.size w1 w2 := hw2 ▸ (Below.refl _ _).alloc (Nat.le_refl _) _
  have hgt := blk_on hb2 (hw1 ▸ blk_new w 32 (tuA pr false shi slo dv dhi dlo sp dp))
  have hg := hw2 ▸ blk_new w1 26 #[.bool tv, .int .u64 thi, .int .u64 tlo]
  have hB := hb1.trans (hb2.mono hb1.size)
  have zt := blk_lt hgt
  have hn0 : n0 ≤ maxLen := by omega
  have hCut := fun l : Later w2 => Pkt.pcut_b A n0 c n l.w hn0 hnc hn
  clear hb1 hb2
  unfold tuA at hw1 hgt hD ⊢
  have zg1 : w1.heap.size < w2.heap.size := by rw [← hw2]; simp
  have t1 : ((KT : Int) != 0) = true := by rw [bne_iff_ne]; omega
  replace hx := hide hx
  replace hD := hide hD
  replace hn := hide hn
  replace hCut := hide hCut
  replace hT := hide hT
  replace hUl := hide hUl
  replace hV := hide hV
  replace hbad := hide hbad
  replace hB := hide hB
  replace hgt := hide hgt
  replace hg := hide hg
  go_enter Try.func4, Try.ntmps4
  go_upto_region 1 with fail
  clear hw1 hw2
  have hcl := fun (l : Later w2) (o : Nat) => blk_cell (blk_below l.hb zt hgt.out) o
  refine wp_region_L (by as_aux_lemma => kernel_rfl) ?_
  refine wpE_seg 0 3 (fuel := 6) (by as_aux_lemma => kernel_rfl) (fun d _ _ _ _ h => by cases d <;> exact h) (by as_aux_lemma => kernel_rfl) (by as_aux_lemma => kernel_rfl) ?_
  simp only [List.drop_zero, List.take_succ_cons, List.take_zero]
  iterate 2 (refine wpQE_step (fun K hK => ?_); go_simp; refine hK _ ?_; clear hK K)
  (refine wpQE_step (fun K hK => ?_); go_simp; apply Exists.intro; refine ⟨fun l => ?_, hK _ ?_⟩; (go_at_call 10; refine (hCut.out l).mono ?_; rintro e w' ⟨rfl, hb⟩; exact ⟨rfl, hb⟩); clear hK K)
  refine wpQE_nil ?_
  clear hcl hCut
  refine wpE_step 3 (fuel := 5) rfl (by as_aux_lemma => kernel_rfl) (fun l K hK => ?_)
  go_simp
  have hBl := hB.out.trans (l.hb.mono hB.out.size)
  have hb1 := l.hb
  go_at_call 16
  refine (hD.out _ (hx.out.on hBl)).mono ?_
  rintro e w3 ⟨v3, rfl, h3, -, hb3⟩
  have hown3 := h3 rfl
  obtain ⟨A3, c3, rfl, hc3, hm3, -⟩ := hown3.form
  rw [hUl.out] at hown3 hc3 ⊢
  refine hK _ _ hb3 ?_
  clear hK K h3
  refine wpE_seg 4 5 (fuel := 0) (by as_aux_lemma => kernel_rfl) (fun d _ _ _ _ h => by cases d <;> exact h) (by as_aux_lemma => kernel_rfl) (by as_aux_lemma => kernel_rfl) ?_
  simp only [List.drop_succ_cons, List.drop_zero, List.take_succ_cons, List.take_zero]
  iterate 5 (refine wpQE_step (fun K hK => ?_); go_simp; refine hK _ ?_; clear hK K)
  refine wpQE_nil ?_
  refine wpE_done (by as_aux_lemma => kernel_rfl) (fun w4 hb4 => ?_) 0
  have zl := hb1.size
  have hown4 := (hown3.below hb4).weaken zl
  have hb5 := hb1.trans ((hb3.mono hb1.size).trans (hb4.mono (Nat.le_trans hb1.size hb3.size)))
  clear hb1 hb3 hb4 hBl hown3
  have zt2 : w.heap.size < w2.heap.size := zt
  replace hB := hide (hB.out.trans (hb5.mono hB.out.size))
  replace hgt := hide (blk_on hb5 hgt.out)
  replace hg := hide (blk_on hb5 hg.out)
  clear hb5
  have hct := blk_cell hgt.out
  obtain ⟨g, cur, rfl, hgb, hgh, -⟩ := hown4.row (by omega)
  have i26 : (26 : Int) < (m : Int) := by omega
  have i27 : (27 : Int) < (m : Int) := by omega
  have l28 : ¬ (m : Int) < 28 := by omega
  have hi4 := hown4.reads.2.2.2
  obtain ⟨v26, -, -, hc26⟩ := hi4.byteAt (i := 26) (by omega)
  rw [Nat.zero_add] at hc26
  have hf26 := blk_free hgh 26
  have hown5 := hown4.store 26 0
  obtain ⟨w5, hw5⟩ : ∃ w5, w4.setCell ⟨g, 26, none⟩ (.int .u8 0) = w5 := ⟨_, rfl⟩
  have hg5 : w4.grownBy w5 (some g) := hw5 ▸ grown_set (grown_refl _ _) rfl _
  replace hown5 : OwnB w5 w2.heap.size (.slice (some ⟨g, 0, none⟩) m c3) (U.set 26 0) := hw5 ▸ hown5
  obtain ⟨g', cur5, hge, -, hgh5, -⟩ := hown5.row (by omega)
  cases hge
  have hi5 := hown5.reads.2.2.2
  obtain ⟨v27, -, -, hc27⟩ := hi5.byteAt (i := 27) (by omega)
  rw [Nat.zero_add] at hc27
  have hf27 := blk_free hgh5 27
  have hown6 := hown5.store 27 0
  obtain ⟨w6, hw6⟩ : ∃ w6, w5.setCell ⟨g, 27, none⟩ (.int .u8 0) = w6 := ⟨_, rfl⟩
  have hg6 : w5.grownBy w6 (some g) := hw6 ▸ grown_set (grown_refl _ _) rfl _
  replace hown6 : OwnB w6 w2.heap.size (.slice (some ⟨g, 0, none⟩) m c3) ((U.set 26 0).set 27 0) := hw6 ▸ hown6
  rw [set2_setB U 26 0 0 (by have := hUl.out; omega), hV.out] at hown6
  have z42 : w2.heap.size ≤ w4.heap.size := by have := hown4.lt g rfl; omega
  have hb46 : Below w2.heap.size w4 w6 := (below_grown hg5 z42 hgb).trans (below_grown hg6 (by have := hg5.size; omega) hgb)
  have hB6 := hB.out.trans (hb46.mono (by omega))
  have hg6a := grown_other hg6 (by have := blk_lt hg.out; have := hg5.size; omega) (show w1.heap.size ≠ g by have := zg1; omega) (grown_other hg5 (blk_lt hg.out) (show w1.heap.size ≠ g by have := zg1; omega) hg.out)
  have hi6 := hown6.reads.2.2.2
  clear hg5 hg6 hown4 hown5 hi4 hi5 hgh hgh5 hb46
  replace hown6 := hide hown6
  replace hi6 := hide hi6
  replace hB6 := hide hB6
  replace hg6a := hide hg6a
  go_upto_region 6 with fail
  clear hct
  go_upto_region 8 with fail
  clear hc26 hf26 hw5 hc27 hf27 hw6
  clear hB hg hgt
  have hca := blk_cell hg6a.out
  have hB := hB6.out
  have hg := hg6a.out
  clear hB6 hg6a hown6
  replace hB := hide hB
  replace hg := hide hg
  apply wp_region_lit
  iterate 3 (refine wpList_plain rfl fun K hK => ?_; go_simp; refine hK _ _ ?_; clear hK K)
  clear hca
  refine wpList_plain rfl fun K hK => ?_
  go_simp
  refine (hT.out _ c3 _ hi6.out hc3 hm3).mono ?_
  rintro e w7 hE
  obtain ⟨v7, rfl, h7, h7n, hb7⟩ := hE
  obtain rfl := h7n hKT
  clear h7 h7n hi6
  replace hB := hide (hB.out.trans (hb7.mono hB.out.size))
  replace hg := hide (blk_on hb7 hg.out)
  clear hb7
  go_simp
  refine hK _ _ ?_
  clear hK K
  iterate 5 (refine wpList_plain rfl fun K hK => ?_; go_simp; refine hK _ _ ?_; clear hK K)
  refine wpList_nil ?_
  have hca := blk_cell hg.out
  go_upto_region 10 with fail
  have hfin := awake_any
  by_cases q1 : port < 0
  · go_wp2_with fail
    refine (awake_any _).mono ?_
    rintro e w10 ⟨rfl, hb10⟩
    replace hB := hide (hB.out.trans (hb10.mono hB.out.size))
    replace hg := hide (blk_on hb10 hg.out)
    clear hb10
    clear hca
    go_wp2_with fail
    go_ret
    exact ⟨by simp [q1], hB.out⟩
  by_cases q2 : 65535 < port
  · go_wp2_with fail
    refine (awake_any _).mono ?_
    rintro e w10 ⟨rfl, hb10⟩
    replace hB := hide (hB.out.trans (hb10.mono hB.out.size))
    replace hg := hide (blk_on hb10 hg.out)
    clear hb10
    clear hca
    go_wp2_with fail
    go_ret
    exact ⟨by simp [q2], hB.out⟩
  by_cases q3 : tv = true
  · subst q3
    go_wp2_with fail
    refine (awake_any _).mono ?_
    rintro e w10 ⟨rfl, hb10⟩
    replace hB := hide (hB.out.trans (hb10.mono hB.out.size))
    replace hg := hide (blk_on hb10 hg.out)
    clear hb10
    clear hca
    go_wp2_with fail
    go_ret
    exact ⟨by simp, hB.out⟩
  obtain rfl : tv = false := by simpa using q3
  have hok : Four.okA false thi tlo = false := by
    rcases hbad.out with h | h | h | h
    · exact absurd h q1
    · exact absurd h q2
    · cases h
    · exact h
  replace hok := hide hok
  go_wp2_with fail
  refine (Four.addr_right false thi tlo false _ hok.out).mono ?_
  rintro e w9 ⟨rfl, hb9⟩
  replace hB := hide (hB.out.trans (hb9.mono hB.out.size))
  replace hg := hide (blk_on hb9 hg.out)
  clear hb9
  go_wp2_with fail
  refine (awake_any _).mono ?_
  rintro e w10 ⟨rfl, hb10⟩
  replace hB := hide (hB.out.trans (hb10.mono hB.out.size))
  replace hg := hide (blk_on hb10 hg.out)
  clear hb10
  clear hca
  go_wp2_with fail
  go_ret
  exact ⟨by simp, hB.out⟩
set_option maxRecDepth 20000 in
set_option maxHeartbeats 8000000 in
theorem bare_ok (n0 n c m : Nat) (xs U V X : List UInt8) (pr : Int) (shi slo : Int) (dv : Bool) (dhi dlo sp dp : Int) (T : Nat) (thi tlo a b wp dh dl port : Nat) (ttl fl sz : Nat) (hXl : X.length = T) (hT28 : 28 ≤ T) (hX26 : (X.getD 26 0).toNat = 0) (hX27 : (X.getD 27 0).toNat = 0)
    (hP : PIs T X 0 (pkA false 17 a b thi tlo wp port ttl fl sz)) (A : Option Addr) (w : World) (hx : IsB w w.heap.size A n xs) (hn : min n0 500 = n) (hnc : n0 ≤ c) (hcm : c ≤ maxLen) (hUl : U.length = m) (hm : 28 ≤ m) (hm2 : m ≤ 4000) (hV : setB U 26 [0, 0] = V)
    (hD : ∀ w : World, IsB w w.heap.size A n xs → Calls Try.prog 16 #[.agg (tuA pr false shi slo dv dhi dlo sp dp), .int .i64 64, .slice A n c] w fun e w' => InEnd 0 U w w' e)
    (hT : ∀ (A : Option Addr) (c : Nat) (w : World), IsB w w.heap.size A m V → m ≤ c → c ≤ maxLen → Calls Try.prog 11 #[.slice A m c, .int .i64 1, .agg #[.bool false, .int .u64 thi, .int .u64 tlo], .int .i64 port] w fun en w' => InEnd 0 X w w' en) :
    Calls Try.prog 4 #[.agg (tuA pr false shi slo dv dhi dlo sp dp), .slice A n0 c, .agg #[.bool false, .int .u64 thi, .int .u64 tlo], .int .i64 port] w fun e w' => e = .returned (.bool true) ∧ Below w.heap.size w w' := by
  obtain ⟨w1, hw1⟩ : ∃ w1, w.alloc (.cells (tuA pr false shi slo dv dhi dlo sp dp) 32) = w1 := ⟨_, rfl⟩
  obtain ⟨w2, hw2⟩ : ∃ w2, w1.alloc (.cells #[.bool false, .int .u64 thi, .int .u64 tlo] 26) = w2 := ⟨_, rfl⟩
  have hb1 : Below w.heap.size w w1 := hw1 ▸ (Below.refl _ _).alloc (Nat.le_refl _) _
  have hb2 : Below w1.heap.size w1 w2 := hw2 ▸ (Below.refl _ _).alloc (Nat.le_refl _) _
  have hgt := blk_on hb2 (hw1 ▸ blk_new w 32 (tuA pr false shi slo dv dhi dlo sp dp))
  have hg := hw2 ▸ blk_new w1 26 #[.bool false, .int .u64 thi, .int .u64 tlo]
  have hB := hb1.trans (hb2.mono hb1.size)
  have zt := blk_lt hgt
  have hn0 : n0 ≤ maxLen := by omega
  have hCut := fun l : Later w2 => Pkt.pcut_b A n0 c n l.w hn0 hnc hn
  clear hb1 hb2
  unfold tuA at hw1 hgt hD ⊢
  have zg1 : w1.heap.size < w2.heap.size := by rw [← hw2]; simp
  obtain ⟨y, hy⟩ : ∃ y, pkA false 17 a b thi tlo wp port ttl fl sz = y := ⟨_, rfl⟩
  rw [hy] at hP
  have hys : y.size = 23 := hy ▸ rfl
  have hyo : y.all (·.oneCell') = true := hy ▸ pkA_one _ _ _ _ _ _ _ _ _ _ _
  replace hx := hide hx
  replace hD := hide hD
  replace hn := hide hn
  replace hCut := hide hCut
  replace hT := hide hT
  replace hUl := hide hUl
  replace hV := hide hV
  replace hP := hide hP
  replace hy := hide hy
  replace hys := hide hys
  replace hyo := hide hyo
  replace hXl := hide hXl
  replace hX26 := hide hX26
  replace hX27 := hide hX27
  replace hB := hide hB
  replace hgt := hide hgt
  replace hg := hide hg
  go_enter Try.func4, Try.ntmps4
  go_upto_region 1 with fail
  clear hw1 hw2
  have hcl := fun (l : Later w2) (o : Nat) => blk_cell (blk_below l.hb zt hgt.out) o
  refine wp_region_L (by as_aux_lemma => kernel_rfl) ?_
  refine wpE_seg 0 3 (fuel := 6) (by as_aux_lemma => kernel_rfl) (fun d _ _ _ _ h => by cases d <;> exact h) (by as_aux_lemma => kernel_rfl) (by as_aux_lemma => kernel_rfl) ?_
  simp only [List.drop_zero, List.take_succ_cons, List.take_zero]
  iterate 2 (refine wpQE_step (fun K hK => ?_); go_simp; refine hK _ ?_; clear hK K)
  (refine wpQE_step (fun K hK => ?_); go_simp; apply Exists.intro; refine ⟨fun l => ?_, hK _ ?_⟩; (go_at_call 10; refine (hCut.out l).mono ?_; rintro e w' ⟨rfl, hb⟩; exact ⟨rfl, hb⟩); clear hK K)
  refine wpQE_nil ?_
  clear hcl hCut
  refine wpE_step 3 (fuel := 5) rfl (by as_aux_lemma => kernel_rfl) (fun l K hK => ?_)
  go_simp
  have hBl := hB.out.trans (l.hb.mono hB.out.size)
  have hb1 := l.hb
  go_at_call 16
  refine (hD.out _ (hx.out.on hBl)).mono ?_
  rintro e w3 ⟨v3, rfl, h3, -, hb3⟩
  have hown3 := h3 rfl
  obtain ⟨A3, c3, rfl, hc3, hm3, -⟩ := hown3.form
  rw [hUl.out] at hown3 hc3 ⊢
  refine hK _ _ hb3 ?_
  clear hK K h3
  refine wpE_seg 4 5 (fuel := 0) (by as_aux_lemma => kernel_rfl) (fun d _ _ _ _ h => by cases d <;> exact h) (by as_aux_lemma => kernel_rfl) (by as_aux_lemma => kernel_rfl) ?_
  simp only [List.drop_succ_cons, List.drop_zero, List.take_succ_cons, List.take_zero]
  iterate 5 (refine wpQE_step (fun K hK => ?_); go_simp; refine hK _ ?_; clear hK K)
  refine wpQE_nil ?_
  refine wpE_done (by as_aux_lemma => kernel_rfl) (fun w4 hb4 => ?_) 0
  have zl := hb1.size
  have hown4 := (hown3.below hb4).weaken zl
  have hb5 := hb1.trans ((hb3.mono hb1.size).trans (hb4.mono (Nat.le_trans hb1.size hb3.size)))
  clear hb1 hb3 hb4 hBl hown3
  have zt2 : w.heap.size < w2.heap.size := zt
  replace hB := hide (hB.out.trans (hb5.mono hB.out.size))
  replace hgt := hide (blk_on hb5 hgt.out)
  replace hg := hide (blk_on hb5 hg.out)
  clear hb5
  have hct := blk_cell hgt.out
  obtain ⟨g, cur, rfl, hgb, hgh, -⟩ := hown4.row (by omega)
  have i26 : (26 : Int) < (m : Int) := by omega
  have i27 : (27 : Int) < (m : Int) := by omega
  have l28 : ¬ (m : Int) < 28 := by omega
  have hi4 := hown4.reads.2.2.2
  obtain ⟨v26, -, -, hc26⟩ := hi4.byteAt (i := 26) (by omega)
  rw [Nat.zero_add] at hc26
  have hf26 := blk_free hgh 26
  have hown5 := hown4.store 26 0
  obtain ⟨w5, hw5⟩ : ∃ w5, w4.setCell ⟨g, 26, none⟩ (.int .u8 0) = w5 := ⟨_, rfl⟩
  have hg5 : w4.grownBy w5 (some g) := hw5 ▸ grown_set (grown_refl _ _) rfl _
  replace hown5 : OwnB w5 w2.heap.size (.slice (some ⟨g, 0, none⟩) m c3) (U.set 26 0) := hw5 ▸ hown5
  obtain ⟨g', cur5, hge, -, hgh5, -⟩ := hown5.row (by omega)
  cases hge
  have hi5 := hown5.reads.2.2.2
  obtain ⟨v27, -, -, hc27⟩ := hi5.byteAt (i := 27) (by omega)
  rw [Nat.zero_add] at hc27
  have hf27 := blk_free hgh5 27
  have hown6 := hown5.store 27 0
  obtain ⟨w6, hw6⟩ : ∃ w6, w5.setCell ⟨g, 27, none⟩ (.int .u8 0) = w6 := ⟨_, rfl⟩
  have hg6 : w5.grownBy w6 (some g) := hw6 ▸ grown_set (grown_refl _ _) rfl _
  replace hown6 : OwnB w6 w2.heap.size (.slice (some ⟨g, 0, none⟩) m c3) ((U.set 26 0).set 27 0) := hw6 ▸ hown6
  rw [set2_setB U 26 0 0 (by have := hUl.out; omega), hV.out] at hown6
  have z42 : w2.heap.size ≤ w4.heap.size := by have := hown4.lt g rfl; omega
  have hb46 : Below w2.heap.size w4 w6 := (below_grown hg5 z42 hgb).trans (below_grown hg6 (by have := hg5.size; omega) hgb)
  have hB6 := hB.out.trans (hb46.mono (by omega))
  have hg6a := grown_other hg6 (by have := blk_lt hg.out; have := hg5.size; omega) (show w1.heap.size ≠ g by have := zg1; omega) (grown_other hg5 (blk_lt hg.out) (show w1.heap.size ≠ g by have := zg1; omega) hg.out)
  have hi6 := hown6.reads.2.2.2
  clear hg5 hg6 hown4 hown5 hi4 hi5 hgh hgh5 hb46
  replace hown6 := hide hown6
  replace hi6 := hide hi6
  replace hB6 := hide hB6
  replace hg6a := hide hg6a
  go_upto_region 6 with fail
  clear hct
  go_upto_region 8 with fail
  clear hc26 hf26 hw5 hc27 hf27 hw6
  clear hB hg hgt
  have hca := blk_cell hg6a.out
  have hB := hB6.out
  have hg := hg6a.out
  clear hB6 hg6a hown6
  replace hB := hide hB
  replace hg := hide hg
  apply wp_region_lit
  iterate 3 (refine wpList_plain rfl fun K hK => ?_; go_simp; refine hK _ _ ?_; clear hK K)
  clear hca
  refine wpList_plain rfl fun K hK => ?_
  go_simp
  refine (hT.out _ c3 _ hi6.out hc3 hm3).mono ?_
  rintro e w7 hE
  obtain ⟨v7, rfl, h7, h7n, hb7⟩ := hE
  have hown7 := h7 rfl
  obtain ⟨A7, c7, rfl, hc7, hm7, hi7⟩ := hown7.form
  rw [hXl.out] at hc7 hi7 hown7 ⊢
  obtain ⟨g7, cur7, rfl, -, -, -⟩ := hown7.row (by omega)
  clear h7 h7n hi6 hown7
  replace hB := hide (hB.out.trans (hb7.mono hB.out.size))
  replace hg := hide (blk_on hb7 hg.out)
  clear hb7
  replace hi7 := hide hi7
  go_simp
  refine hK _ _ ?_
  clear hK K
  iterate 5 (refine wpList_plain rfl fun K hK => ?_; go_simp; refine hK _ _ ?_; clear hK K)
  refine wpList_nil ?_
  go_upto_region 11 with fail
  apply wp_region_lit
  iterate 1 (refine wpList_plain rfl fun K hK => ?_; go_simp; refine hK _ _ ?_; clear hK K)
  refine wpList_plain rfl fun K hK => ?_
  go_simp
  refine (hP.out _ c7 _ hi7.out hc7 hm7).mono ?_
  rintro e w8 hE
  obtain ⟨rfl, hb8⟩ := hE
  rw [if_pos rfl]
  replace hB := hide (hB.out.trans (hb8.mono hB.out.size))
  replace hg := hide (blk_on hb8 hg.out)
  replace hi7 := hide (hi7.out.on hb8)
  clear hb8
  go_simp
  refine hK _ _ ?_
  clear hK K
  iterate 3 (refine wpList_plain rfl fun K hK => ?_; go_simp; refine hK _ _ ?_; clear hK K)
  refine wpl_new rfl rfl 34 _ (alloc_pk _ rfl) 13 rfl (.tmp 67) rfl _ (fun _ => rfl) (fun _ => rfl) (by rw [pkZ_size]; exact hys.out) (by rw [size_pk, hys.out]) hyo.out ?_
  intro w9 hg9 hb9 hz9
  replace hB := hide (hB.out.trans (hb9.mono hB.out.size))
  replace hg := hide (blk_on hb9 hg.out)
  replace hi7 := hide (hi7.out.on hb9)
  clear hb9
  iterate 1 (refine wpList_plain rfl fun K hK => ?_; go_simp; refine hK _ _ ?_; clear hK K)
  refine wpList_nil ?_
  have hgy := hg9
  rw [← hy.out] at hgy
  unfold pkA at hgy
  have hcy := blk_cell hgy
  have hca := blk_cell hg.out
  obtain ⟨u26, hu26, -, hc26⟩ := hi7.out.byteAt (i := 26) (by omega)
  obtain ⟨u27, hu27, -, hc27⟩ := hi7.out.byteAt (i := 27) (by omega)
  rw [Nat.zero_add] at hc26 hc27
  obtain rfl : u26 = 0 := hu26.symm.trans hX26.out
  obtain rfl : u27 = 0 := hu27.symm.trans hX27.out
  have i26 : (26 : Int) < (T : Int) := by omega
  have i27 : (27 : Int) < (T : Int) := by omega
  clear hgy hg9 hu26 hu27
  go_upto_region 12 with fail
  go_wp2_with fail
  clear hca hcy hc26 hc27
  refine (awake_any _).mono ?_
  rintro e w10 ⟨rfl, hb10⟩
  replace hB := hide (hB.out.trans (hb10.mono hB.out.size))
  replace hg := hide (blk_on hb10 hg.out)
  replace hi7 := hide (hi7.out.on hb10)
  clear hb10
  go_wp2_with fail
  go_ret
  exact ⟨by first | rfl | simp, hB.out⟩
end Nat15
end Go.Proofs.Ytfmmmjaficbchaa
/- The statement NatBare, walked whole. Conditions: a slice of bytes that reads as a list, numbers of 64 bits. -/
namespace Go.Proofs.Ytfmmmjaficbchaa
open Go.RowKit Go.ChangeShapes Go.WideShapes Go.ChangeAt Go.Deep
namespace Nat15
open Pkt (InEnd PIs pkA pkG tuA wrapB dgU dgU_length dgmK)
theorem bare_any (n0 n c : Nat) (xs : List UInt8) (pr : Int) (sv : Bool) (shi slo : Nat) (dv : Bool) (dhi dlo : Nat) (sp dp : Int) (tv : Bool) (thi tlo : Nat) (port : Int) (h4 : shi < 18446744073709551616) (h5 : slo < 18446744073709551616) (h6 : dhi < 18446744073709551616) (h7 : dlo < 18446744073709551616) (A : Option Addr) (w : World) (hx : IsB w w.heap.size A n xs) (hn : min n0 500 = n) (hnc : n0 ≤ c) (hcm : c ≤ maxLen) :
    Calls Try.prog 4 #[.agg (tuA pr sv shi slo dv dhi dlo sp dp), .slice A n0 c, .agg #[.bool tv, .int .u64 (thi : Int), .int .u64 (tlo : Int)], .int .i64 port] w fun e w' => e = .returned (.bool true) ∧ Below w.heap.size w w' := by
  have hD := fun w hx => Pkt.datagram_any pr sv shi slo dv dhi dlo sp dp 64 A n c xs w hx (by omega) h4 h5 h6 h7
  by_cases hk : dgmK pr sv shi slo dv dhi dlo sp dp 64 ≠ 0 ∨ sv = true
  · exact bare_awake n0 n c _ xs _ pr sv shi slo dv dhi dlo sp dp tv thi tlo port hk A w hx hn hnc hcm hD
  obtain ⟨hk0, hsv⟩ : dgmK pr sv shi slo dv dhi dlo sp dp 64 = 0 ∧ sv = false := by
    refine ⟨?_, ?_⟩
    · by_cases h : dgmK pr sv shi slo dv dhi dlo sp dp 64 = 0
      · exact h
      · exact absurd (.inl h) hk
    · cases h : sv with
      | false => rfl
      | true => exact absurd (.inr h) hk
  subst hsv
  rw [hk0] at hD
  unfold dgmK at hk0
  split at hk0
  · omega
  rename_i hpr
  split at hk0
  case isFalse h => exact absurd hk0 h
  rename_i hd
  obtain ⟨rfl, hdv⟩ : pr = 17 ∧ false = dv := by simpa using hpr
  subst hdv
  have hr : Udp.rightP sp dp = true := by
    unfold Pkt.dgK at hd
    split at hd
    · assumption
    · omega
  unfold Udp.rightP at hr
  rw [decide_eq_true_eq] at hr
  unfold Pkt.wrapK at hk0
  rw [if_neg (by simp)] at hk0
  unfold Pkt.fourK at hk0
  split at hk0
  case isFalse => omega
  rename_i hh
  obtain ⟨_, _, o1, o2⟩ := hh
  obtain ⟨rfl, hsl⟩ := Pkt.okA_four o1
  obtain ⟨rfl, hdl⟩ := Pkt.okA_four o2
  obtain ⟨sN, rfl⟩ : ∃ k : Nat, sp = (k : Int) := ⟨sp.toNat, by omega⟩
  obtain ⟨dN, rfl⟩ : ∃ k : Nat, dp = (k : Int) := ⟨dp.toNat, by omega⟩
  have hxl := hx.1
  have hT4 := turn_bare slo dlo sN dN 64 xs (28 + xs.length) rfl hsl hdl (by omega) (by omega) (by omega) (by omega)
  have hBl : (wrapB false 0 slo 0 dlo 17 (64 : Nat) (dgU false 0 slo 0 dlo sN dN xs)).length = 28 + xs.length := by
    unfold wrapB
    rw [if_neg (by simp), List.length_append, Four.hdB_length, dgU_length]
    simp
    omega
  have hR0 : beN (setB (dgU false 0 slo 0 dlo (sN : Int) (dN : Int) xs) 6 [0, 0]) 6 2 = 0 := beN_zero2 _ 6 (by rw [dgU_length]; omega)
  have hP := hT4.pis (by omega)
  by_cases hb1 : ((1 : Int) ≠ 0 ∧ (1 : Int) ≠ 1) ∨ port < 0 ∨ 65535 < port ∨ false = true
  · exact bare_no n0 n c (28 + xs.length) xs _ _ [] 17 _ _ _ _ _ _ _ 1 (by omega) tv thi tlo port (by rcases hb1 with h | h | h | h; exact absurd rfl h.2; exact .inl h; exact .inr (.inl h); cases h) A w hx hn hnc hcm hBl (by omega) (by omega) rfl hD
      (fun A c w hx hnc hcm => turn_arg _ c _ [] _ _ _ _ _ _ _ _ _ _ _ _ _ _ _ _ _ _ _ _ _ _ _ _ rfl 1 tv thi tlo port hb1 A w hx hnc hcm hP)
  by_cases hb2 : tv ≠ false ∨ Four.okA tv (thi : Int) (tlo : Int) = false
  · exact bare_no n0 n c (28 + xs.length) xs _ _ [] 17 _ _ _ _ _ _ _ 18 (by omega) tv thi tlo port (by
        rcases hb2 with h | h
        · exact .inr (.inr (.inl (by simpa using h)))
        · cases tv with
          | true => exact .inr (.inr (.inl rfl))
          | false => exact .inr (.inr (.inr h))) A w hx hn hnc hcm hBl (by omega) (by omega) rfl hD
      (fun A c w hx hnc hcm => turn_addr _ c _ [] _ _ _ _ _ _ _ _ _ _ _ _ _ _ _ _ _ _ _ _ _ _ _ rfl 1 tv thi tlo port (.inr rfl) (by omega) (by omega) hb2 A w hx hnc hcm hP)
  obtain rfl : tv = false := by
    by_cases ht : tv = false
    · exact ht
    · exact absurd (.inl ht) hb2
  have hok : Four.okA false (thi : Int) (tlo : Int) = true := by
    cases ho : Four.okA false (thi : Int) (tlo : Int) with
    | true => rfl
    | false => exact absurd (.inr ho) hb2
  obtain ⟨t0, t1⟩ := Pkt.okA_four hok
  obtain rfl : thi = 0 := by omega
  obtain ⟨pN, rfl⟩ : ∃ k : Nat, port = (k : Int) := ⟨port.toNat, by omega⟩
  obtain ⟨e26, e27⟩ := bare_stays hT4 hR0 tlo pN dlo (by omega)
  have h2 := hT4.turn 1 tlo pN (by omega) (by omega) (by omega)
  rw [show (if (1 : Nat) = 0 then slo else dlo) = dlo from rfl] at h2
  have hP2 : PIs _ _ 0 (pkA false 17 0 slo 0 tlo sN pN (64 : Nat) (0 : Nat) (28 + xs.length : Nat)) := h2.pis (by omega)
  exact bare_ok n0 n c (28 + xs.length) xs _ _ _ 17 _ _ _ _ _ _ _ (28 + xs.length) 0 tlo 0 slo sN 0 0 pN 64 0 (28 + xs.length) h2.ok.len (by omega) e26 e27 hP2 A w hx hn hnc hcm hBl (by omega) (by omega) rfl hD
    (fun A c w hx hnc hcm => turn4_any hT4 (by omega) 1 tlo pN dlo (by omega) rfl (by omega) (by omega) A c w hx hnc hcm)
theorem bare_walk (pr : Int) (sv : Bool) (shi slo : Int) (dv : Bool) (dhi dlo : Int) (sp dp : Int) (A : Option Addr) (n0 c : Nat) (xs : List UInt8) (tv : Bool) (thi tlo : Int) (port : Int) (w : World) (_ : (Lit.int .i64 pr).wf = true) (h1 : (Lit.int .u64 shi).wf = true) (h2 : (Lit.int .u64 slo).wf = true) (h3 : (Lit.int .u64 dhi).wf = true) (h4 : (Lit.int .u64 dlo).wf = true)
    (_ : (Lit.int .i64 sp).wf = true) (_ : (Lit.int .i64 dp).wf = true) (hx : IsB w w.heap.size A n0 xs) (hnc : n0 ≤ c) (hcm : c ≤ maxLen) (h5 : (Lit.int .u64 thi).wf = true) (h6 : (Lit.int .u64 tlo).wf = true) (_ : (Lit.int .i64 port).wf = true) :
    Calls Try.prog 4 #[.agg #[.int .i64 pr, .bool sv, .int .u64 shi, .int .u64 slo, .bool dv, .int .u64 dhi, .int .u64 dlo, .int .i64 sp, .int .i64 dp], .slice A n0 c, .agg #[.bool tv, .int .u64 thi, .int .u64 tlo], .int .i64 port] w fun e w' => e = .returned (.bool true) ∧ Below w.heap.size w w' := by
  have q1 := u64_wf h1
  have q2 := u64_wf h2
  have q3 := u64_wf h3
  have q4 := u64_wf h4
  have q5 := u64_wf h5
  have q6 := u64_wf h6
  obtain ⟨a1, rfl⟩ : ∃ a : Nat, shi = (a : Int) := ⟨shi.toNat, by omega⟩
  obtain ⟨a2, rfl⟩ : ∃ a : Nat, slo = (a : Int) := ⟨slo.toNat, by omega⟩
  obtain ⟨a3, rfl⟩ : ∃ a : Nat, dhi = (a : Int) := ⟨dhi.toNat, by omega⟩
  obtain ⟨a4, rfl⟩ : ∃ a : Nat, dlo = (a : Int) := ⟨dlo.toNat, by omega⟩
  obtain ⟨a5, rfl⟩ : ∃ a : Nat, thi = (a : Int) := ⟨thi.toNat, by omega⟩
  obtain ⟨a6, rfl⟩ : ∃ a : Nat, tlo = (a : Int) := ⟨tlo.toNat, by omega⟩
  exact bare_any n0 _ c _ pr sv a1 a2 dv a3 a4 sp dp tv a5 a6 port (by omega) (by omega) (by omega) (by omega) A w (hx.take (m := min n0 500) (by omega)) rfl hnc hcm
end Nat15
end Go.Proofs.Ytfmmmjaficbchaa
