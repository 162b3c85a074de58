/- What upper makes of bytes, as a function of the packet so far; and of packets with a time to live one less. Conditions: at most 9000 bytes. -/
import Derived.Test.YtdmgbngdpjcliaaQPktParses2
import Derived.Test.YtdmgbngdpjcliaaQTunLess1
import Derived.Test.YtdmgbngdpjcliaaQPktMakes2
import Derived.Deep.DeepCutAuto
namespace Go.Proofs.Ytdmgbngdpjcliaa
open Go.RowKit Go.ChangeShapes Go.WideShapes Go.ChangeAt Go.Deep
namespace Pkt
/-- What is made of a packet so far. -/
def GoodG (g : Array Value → Array Value) : Prop := (∃ s d f : Nat, f ≤ 255 ∧ g = fun cs => tcpA cs s d f) ∨ (∃ s d : Nat, g = fun cs => udpA cs s d) ∨ ∃ (qr : Int) (sv : Bool) (sh sl : Int) (dv : Bool) (dh dl sp dp : Int), g = fun cs => errA cs (tuA qr sv sh sl dv dh dl sp dp)
theorem GoodG.from {g : Array Value → Array Value} (h : GoodG g) (cs : Array Value) : FromA cs (g cs) := by
  rcases h with ⟨s, d, f, hf, rfl⟩ | ⟨s, d, rfl⟩ | ⟨qr, sv, sh, sl, dv, dh, dl, sp, dp, rfl⟩
  · exact .inl ⟨s, d, f, hf, rfl⟩
  · exact .inr (.inl ⟨s, d, rfl⟩)
  · exact .inr (.inr ⟨qr, sv, sh, sl, dv, dh, dl, sp, dp, rfl⟩)
theorem upper_fn (v6 : Bool) (pr : Int) (xs ps : List UInt8) (hnm : xs.length ≤ 1099511627776) (hm : ps.length ≤ maxLen) :
    ∃ K g, GoodG g ∧ ∀ cs : Array Value, cs.size = 23 → cs.all (·.oneCell') = true → cs[0]? = some (.bool v6) → cs[1]? = some (.int .i64 pr) → UpIs cs (if v6 = true then 58 else 1) xs ps K (g cs) := by
  by_cases h6 : pr = 6
  · exact ⟨_, fun cs => tcpA cs (Tcp.parseS (Tcp.parseK ps xs) xs 0) (Tcp.parseS (Tcp.parseK ps xs) xs 2) (Tcp.parseF (Tcp.parseK ps xs) xs), .inl ⟨_, _, _, parseF_le _ _, rfl⟩,
      fun cs hcs hone h0 h1 A P c d w hx hp hc hcm => upper_tcp cs hcs hone v6 h0 pr h1 _ A P c d xs ps w hx hp hc hcm hnm hm h6 _ rfl _ (fun _ => rfl)⟩
  by_cases h17 : pr = 17
  · exact ⟨_, fun cs => udpA cs (Udp.parseS (Udp.parseK (!v6) ps xs) xs 0) (Udp.parseS (Udp.parseK (!v6) ps xs) xs 2), .inr (.inl ⟨_, _, rfl⟩),
      fun cs hcs hone h0 h1 A P c d w hx hp hc hcm => upper_udp cs hcs hone v6 h0 pr h1 _ A P c d xs ps w hx hp hc hcm hnm hm h17 _ rfl _ (fun _ => rfl)⟩
  by_cases he : pr = (if v6 = true then 58 else 1)
  · have ha : (aheadP v6 ps).length ≤ maxLen := by
      unfold aheadP
      split
      · exact hm
      · simp [maxLen]
    obtain ⟨K1, ty, cd, wd, ds, _, hds, hP⟩ := Icmp.parse_is xs (aheadP v6 ps) hnm ha
    obtain ⟨K2, qr, sv, sh, sl, dv, dh, dl, sp, dp, hQ⟩ := Icmp.quoted_is v6 ty ds (by omega)
    exact ⟨_, fun cs => errA cs (tuA qr dv dh dl sv sh sl dp sp), .inr (.inr ⟨_, _, _, _, _, _, _, _, _, rfl⟩),
      fun cs hcs hone h0 h1 A P c d w hx hp hc hcm => upper_err cs hcs hone v6 h0 pr h1 _ A P c d xs ps w hx hp hc hcm hnm hm h6 h17 he K1 ty cd wd ds hP K2 qr sv sh sl dv dh dl sp dp hQ⟩
  · exact ⟨14, fun cs => udpA cs 0 0, .inr (.inl ⟨0, 0, rfl⟩), fun cs hcs hone h0 h1 A P c d w hx hp hc hcm => upper_none cs hcs hone v6 h0 pr h1 _ A P c d xs ps w hx hp hc hcm hnm hm h6 h17 he _⟩
theorem good_less4 {g : Array Value → Array Value} (h : GoodG g) (proto slo dlo t t' sz : Nat) (ht : (t' : Int) = (t : Int) - 1) :
    (g (p4A proto slo dlo t sz))[10]? = some (.int .i64 (t : Int)) ∧ (g (p4A proto slo dlo t sz)).setIfInBounds 10 (.int .i64 ((t : Int) - 1)) = g (p4A proto slo dlo t' sz) := by
  rw [← ht]
  rcases h with ⟨s, d, f, _, rfl⟩ | ⟨s, d, rfl⟩ | ⟨qr, sv, sh, sl, dv, dh, dl, sp, dp, rfl⟩
  · exact ⟨rfl, rfl⟩
  · exact ⟨rfl, rfl⟩
  · exact ⟨rfl, rfl⟩
theorem good_less6 {g : Array Value → Array Value} (h : GoodG g) (proto sh0 sl0 dh0 dl0 t t' sz : Nat) (ht : (t' : Int) = (t : Int) - 1) :
    (g (p6A proto sh0 sl0 dh0 dl0 t sz))[10]? = some (.int .i64 (t : Int)) ∧ (g (p6A proto sh0 sl0 dh0 dl0 t sz)).setIfInBounds 10 (.int .i64 ((t : Int) - 1)) = g (p6A proto sh0 sl0 dh0 dl0 t' sz) := by
  rw [← ht]
  rcases h with ⟨s, d, f, _, rfl⟩ | ⟨s, d, rfl⟩ | ⟨qr, sv, sh, sl, dv, dh, dl, sp, dp, rfl⟩
  · exact ⟨rfl, rfl⟩
  · exact ⟨rfl, rfl⟩
  · exact ⟨rfl, rfl⟩
/-- What pkt.Parse makes of bytes, wherever they lie. -/
def PIs (n : Nat) (xs : List UInt8) (K : Nat) (y : Array Value) : Prop :=
  ∀ (A : Option Addr) (c : Nat) (w : World), IsB w w.heap.size A n xs → n ≤ c → c ≤ maxLen → Calls Try.prog 29 #[.slice A n c] w fun e w' => End2 K y w w' e
/-- pkt.Parse of a packet of version 4, in its own numbers. -/
theorem four_fn {n : Nat} {xs : List UInt8} (h : Tun.FourOk n xs) (hn : n ≤ 9000) (s al : Nat) (hs : (xs.getD 0 0).toNat % 16 * 4 = s) (hal : beN xs 2 2 = al) (K : Nat) (g : Array Value → Array Value) (hg : GoodG g)
    (hU : ∀ cs : Array Value, cs.size = 23 → cs.all (·.oneCell') = true → cs[0]? = some (.bool false) → cs[1]? = some (.int .i64 ((xs.getD 9 0).toNat : Int)) → UpIs cs 1 ((xs.take al).drop s) (ps4 (beN xs 12 4) (beN xs 16 4) (xs.getD 9 0).toNat (al - s)) K (g cs)) :
    PIs n xs (if beN xs 6 2 % 16384 = 0 then K else 21) (g (p4A (xs.getD 9 0).toNat (beN xs 12 4) (beN xs 16 4) (xs.getD 8 0).toNat al)) := by
  have hF := h.is (by omega) s al hs hal
  have g3 := h.h3
  have g4 := h.h4
  have g6 := h.h6
  have g7 := h.h7
  have gl := h.len
  rw [hs] at g3 g4 g6
  rw [hal] at g6 g7
  have b9 := (xs.getD 9 0).toNat_lt
  have hrl : ((xs.take al).drop s).length = al - s := by rw [List.length_drop, List.length_take]; omega
  by_cases hf : 0 < beN xs 6 2 % 8192 ∨ decide (beN xs 6 2 / 8192 % 2 = 1) = true
  · have hne : ¬ beN xs 6 2 % 16384 = 0 := by
      rcases hf with hf | hf
      · omega
      · rw [decide_eq_true_iff] at hf
        omega
    rw [if_neg hne]
    exact fun A c w hx hc hcm => Parse_four n xs (by omega) hn h.h2 21 _ (fun h => absurd h (by omega)) (fun A c w hx hc hcm => parse4_frag n xs _ _ _ _ _ _ _ _ _ _ _ _ hF hf _ A c w hx hc hcm) A c w hx hc hcm
  · have h1 : beN xs 6 2 % 8192 = 0 := by omega
    have h2 : decide (beN xs 6 2 / 8192 % 2 = 1) = false := by
      cases h3 : decide (beN xs 6 2 / 8192 % 2 = 1) with
      | false => rfl
      | true => exact absurd (.inr h3) hf
    rw [h1, h2] at hF
    rw [decide_eq_false_iff_not] at h2
    rw [if_pos (by omega)]
    have hys : K = 0 → (g (p4A (xs.getD 9 0).toNat (beN xs 12 4) (beN xs 16 4) (xs.getD 8 0).toNat al)).size = 23 ∧ (g (p4A (xs.getD 9 0).toNat (beN xs 12 4) (beN xs 16 4) (xs.getD 8 0).toNat al)).all (·.oneCell') = true :=
      fun _ => ⟨(hg.from _).size rfl, (hg.from _).one (p4A_one _ _ _ _ _)⟩
    have hU1 := hU (p4A (xs.getD 9 0).toNat (beN xs 12 4) (beN xs 16 4) (xs.getD 8 0).toNat al) rfl (p4A_one _ _ _ _ _) rfl rfl
    have e : 20 + (s - 20) + (al - s) = al := by omega
    exact fun A c w hx hc hcm => Parse_four n xs (by omega) hn h.h2 K _ hys (fun A c w hx hc hcm => parse4_ok n xs _ _ _ _ _ _ _ _ _ _ hF (by omega) (by omega) (beN_lt xs 12 4) (beN_lt xs 16 4) hrl K _ (by rw [e]; exact hU1) hys A c w hx hc hcm) A c w hx hc hcm
theorem six_fn {n : Nat} {xs : List UInt8} {acc : List (Int × List UInt8)} {nx : Nat} {rest : List UInt8} (h : Tun.SixOk n xs acc nx rest) (hn : n ≤ 9000) (K : Nat) (g : Array Value → Array Value) (hg : GoodG g)
    (hU : ∀ cs : Array Value, cs.size = 23 → cs.all (·.oneCell') = true → cs[0]? = some (.bool true) → cs[1]? = some (.int .i64 (nx : Int)) → UpIs cs 58 rest (Six.pseudoB (beN xs 8 8) (beN xs 16 8) (beN xs 24 8) (beN xs 32 8) rest.length nx) K (g cs)) :
    PIs n xs (if Six.fragP acc = 0 ∧ Six.moreP acc = false then K else 21) (g (p6A nx (beN xs 8 8) (beN xs 16 8) (beN xs 24 8) (beN xs 32 8) (xs.getD 7 0).toNat (40 + Six.sumP acc + rest.length))) := by
  have hF := h.is (by omega)
  obtain ⟨f1, f2, f3, f4, f5, f6, f7, f8⟩ := h.facts
  by_cases hf : 0 < Six.fragP acc ∨ Six.moreP acc = true
  · have hne : ¬ (Six.fragP acc = 0 ∧ Six.moreP acc = false) := by
      rcases hf with hf | hf
      · omega
      · rw [hf]
        exact fun h => by cases h.2
    rw [if_neg hne]
    exact fun A c w hx hc hcm => Parse_six n xs (by omega) hn f2 21 _ (fun h => absurd h (by omega)) (fun A c w hx hc hcm => parse6_frag n xs _ _ _ _ _ _ _ acc nx _ rest hF f6 hf _ A c w hx hc hcm) A c w hx hc hcm
  · have h1 : Six.fragP acc = 0 := by omega
    have h2 : Six.moreP acc = false := by
      cases h3 : Six.moreP acc with
      | false => rfl
      | true => exact absurd (.inr h3) hf
    rw [if_pos ⟨h1, h2⟩]
    have hys : K = 0 → (g (p6A nx (beN xs 8 8) (beN xs 16 8) (beN xs 24 8) (beN xs 32 8) (xs.getD 7 0).toNat (40 + Six.sumP acc + rest.length))).size = 23 ∧ (g (p6A nx (beN xs 8 8) (beN xs 16 8) (beN xs 24 8) (beN xs 32 8) (xs.getD 7 0).toNat (40 + Six.sumP acc + rest.length))).all (·.oneCell') = true :=
      fun _ => ⟨(hg.from _).size rfl, (hg.from _).one (p6A_one _ _ _ _ _ _ _)⟩
    have hU1 := hU (p6A nx (beN xs 8 8) (beN xs 16 8) (beN xs 24 8) (beN xs 32 8) (xs.getD 7 0).toNat (40 + Six.sumP acc + rest.length)) rfl (p6A_one _ _ _ _ _ _ _) rfl rfl
    exact fun A c w hx hc hcm => Parse_six n xs (by omega) hn f2 K _ hys (fun A c w hx hc hcm => parse6_ok n xs _ _ _ _ _ _ _ acc nx _ rest hF f6 f7 h1 h2 (by omega) f5 (beN_lt xs 8 8) (beN_lt xs 16 8) (beN_lt xs 24 8) (beN_lt xs 32 8) rfl _ rfl K _ hU1 hys A c w hx hc hcm) A c w hx hc hcm
theorem less4_parse {n : Nat} {xs : List UInt8} (h : Tun.FourOk n xs) (hn : n ≤ 9000) (al : Nat) (hal : beN xs 2 2 = al) (h2 : 2 ≤ (xs.getD 8 0).toNat) :
    ∃ Kp y1 y2, PIs n xs Kp y1 ∧ PIs al (Tun.lessB4 xs al) Kp y2 ∧ (Kp = 0 → y1[10]? = some (.int .i64 ((xs.getD 8 0).toNat : Int)) ∧ y1.setIfInBounds 10 (.int .i64 (((xs.getD 8 0).toNat : Int) - 1)) = y2 ∧ IsG y1 ∧ IsG y2) := by
  obtain ⟨s, hs⟩ : ∃ s, (xs.getD 0 0).toNat % 16 * 4 = s := ⟨_, rfl⟩
  obtain ⟨ho, hl, h8, hsame, hrest⟩ := Tun.lessB4_ok h s al hs hal h2
  have g3 := h.h3
  have g4 := h.h4
  have g6 := h.h6
  have g7 := h.h7
  have gl := h.len
  rw [hs] at g3 g4 g6
  rw [hal] at g6 g7
  have hrl : ((xs.take al).drop s).length = al - s := by rw [List.length_drop, List.length_take]; omega
  obtain ⟨K, g, hg, hU⟩ := upper_fn false ((xs.getD 9 0).toNat : Int) ((xs.take al).drop s) (ps4 (beN xs 12 4) (beN xs 16 4) (xs.getD 9 0).toNat (al - s)) (by omega) (by unfold ps4 maxLen; simp [beB_length])
  have same : ∀ i, i < 20 → i ≠ 8 → i ≠ 10 → i ≠ 11 → (Tun.lessB4 xs al).getD i 0 = xs.getD i 0 := fun i h1 h2 h3 h4 => getD_of_get (hsame i (by omega) h2 h3 h4)
  have e0 := same 0 (by omega) (by omega) (by omega) (by omega)
  have e9 := same 9 (by omega) (by omega) (by omega) (by omega)
  have e2 : beN (Tun.lessB4 xs al) 2 2 = al := (beN_congr _ _ _ _ fun i _ hi => same i (by omega) (by omega) (by omega) (by omega)).trans hal
  have e6 : beN (Tun.lessB4 xs al) 6 2 = beN xs 6 2 := beN_congr _ _ _ _ fun i _ hi => same i (by omega) (by omega) (by omega) (by omega)
  have e12 : beN (Tun.lessB4 xs al) 12 4 = beN xs 12 4 := beN_congr _ _ _ _ fun i _ hi => same i (by omega) (by omega) (by omega) (by omega)
  have e16 : beN (Tun.lessB4 xs al) 16 4 = beN xs 16 4 := beN_congr _ _ _ _ fun i _ hi => same i (by omega) (by omega) (by omega) (by omega)
  have p1 := four_fn h hn s al hs hal K g hg hU
  have p2 := four_fn ho (by omega) s al (by rw [e0]; exact hs) e2 K g hg (by rw [e9, e12, e16, hrest]; exact hU)
  rw [e6, e9, e12, e16, h8] at p2
  obtain ⟨q1, q2⟩ := good_less4 hg (xs.getD 9 0).toNat (beN xs 12 4) (beN xs 16 4) (xs.getD 8 0).toNat ((xs.getD 8 0).toNat - 1) al (by omega)
  exact ⟨_, _, _, p1, p2, fun _ => ⟨q1, q2, (hg.from _).four, (hg.from _).four⟩⟩
theorem less6_parse {n : Nat} {xs : List UInt8} {acc : List (Int × List UInt8)} {nx : Nat} {rest : List UInt8} (h : Tun.SixOk n xs acc nx rest) (hn : n ≤ 9000) (T : Nat) (hT : 40 + Six.sumP acc + rest.length = T) (h2 : 2 ≤ (xs.getD 7 0).toNat) :
    ∃ Kp y1 y2, PIs n xs Kp y1 ∧ PIs T (Tun.lessB6 xs T) Kp y2 ∧ (Kp = 0 → y1[10]? = some (.int .i64 ((xs.getD 7 0).toNat : Int)) ∧ y1.setIfInBounds 10 (.int .i64 (((xs.getD 7 0).toNat : Int) - 1)) = y2 ∧ IsG y1 ∧ IsG y2) := by
  obtain ⟨ho, hl, h7, hsame⟩ := Tun.lessB6_ok h T hT
  obtain ⟨f1, f2, f3, f4, f5, f6, f7, f8⟩ := h.facts
  obtain ⟨K, g, hg, hU⟩ := upper_fn true (nx : Int) rest (Six.pseudoB (beN xs 8 8) (beN xs 16 8) (beN xs 24 8) (beN xs 32 8) rest.length nx) (by omega) (by unfold Six.pseudoB maxLen; simp [beB_length, allB])
  have same : ∀ i, i < 40 → i ≠ 7 → (Tun.lessB6 xs T).getD i 0 = xs.getD i 0 := fun i h1 h2 => getD_of_get (hsame i (by omega) h2)
  have e8 : beN (Tun.lessB6 xs T) 8 8 = beN xs 8 8 := beN_congr _ _ _ _ fun i _ hi => same i (by omega) (by omega)
  have e16 : beN (Tun.lessB6 xs T) 16 8 = beN xs 16 8 := beN_congr _ _ _ _ fun i _ hi => same i (by omega) (by omega)
  have e24 : beN (Tun.lessB6 xs T) 24 8 = beN xs 24 8 := beN_congr _ _ _ _ fun i _ hi => same i (by omega) (by omega)
  have e32 : beN (Tun.lessB6 xs T) 32 8 = beN xs 32 8 := beN_congr _ _ _ _ fun i _ hi => same i (by omega) (by omega)
  have p1 := six_fn h hn K g hg hU
  have p2 := six_fn ho (by omega) K g hg (by rw [e8, e16, e24, e32]; exact hU)
  rw [e8, e16, e24, e32, h7] at p2
  obtain ⟨q1, q2⟩ := good_less6 hg nx (beN xs 8 8) (beN xs 16 8) (beN xs 24 8) (beN xs 32 8) (xs.getD 7 0).toNat ((xs.getD 7 0).toNat - 1) (40 + Six.sumP acc + rest.length) (by omega)
  exact ⟨_, _, _, p1, p2, fun _ => ⟨q1, q2, (hg.from _).six, (hg.from _).six⟩⟩
end Pkt
end Go.Proofs.Ytdmgbngdpjcliaa
/- The statement TunLess, walked. Conditions: what tun.Less, the law's ttl and pkt.Parse make of the bytes is known. -/
namespace Go.Proofs.Ytdmgbngdpjcliaa
open Go.RowKit Go.ChangeShapes Go.WideShapes Go.ChangeAt Go.Deep
namespace Tun
open Pkt (InEnd End2 pkZ IsG pkG alloc_pk size_pk pkZ_size pkZ_one)
/-- Which bytes are others in a packet with a time to live one less. -/
def turnB (v4 : Bool) (k : Nat) : Bool := (v4 && (decide (k = 8) || decide (k = 10) || decide (k = 11))) || (!v4 && decide (k = 7))
set_option maxRecDepth 20000 in
set_option maxHeartbeats 8000000 in
theorem tunless_good (v4 : Bool) (n0 n T c : Nat) (xs U : List UInt8) (tt : Nat) (Kp : Nat) (y1 y2 : Array Value) (A : Option Addr) (w : World) (hx : IsB w w.heap.size A n xs) (hn : min n0 500 = n) (hnc : n0 ≤ c) (hcm : c ≤ maxLen)
    (hT : 20 ≤ T) (hTn : T ≤ n) (htt : 2 ≤ tt) (htl : tt ≤ 255) (hv : decide ((xs.getD 0 0).toNat / 16 = 4) = v4) (hU : U.length = T)
    (hL : ∀ w : World, IsB w w.heap.size A n xs → Calls Try.prog 28 #[.slice A n c] w fun e w' => InEnd 0 U w w' e)
    (hT1 : ∀ w : World, IsB w w.heap.size A n xs → Calls Try.prog 24 #[.slice A n c] w fun e w' => e = .returned (.tuple #[.int .i64 (tt : Int), .int .i64 (T : Int), .int .i64 0]) ∧ Below w.heap.size w w')
    (hT2 : ∀ (A : Option Addr) (c : Nat) (w : World), IsB w w.heap.size A T U → T ≤ c → c ≤ maxLen → Calls Try.prog 24 #[.slice A T c] w fun e w' => e = .returned (.tuple #[.int .i64 ((tt : Int) - 1), .int .i64 (T : Int), .int .i64 0]) ∧ Below w.heap.size w w')
    (hsame : ∀ k, k < T → turnB v4 k = false → U[k]? = xs[k]?)
    (hP1 : ∀ w : World, IsB w w.heap.size A n xs → Calls Try.prog 29 #[.slice A n c] w fun e w' => End2 Kp y1 w w' e)
    (hP2 : ∀ (A : Option Addr) (c : Nat) (w : World), IsB w w.heap.size A T U → T ≤ c → c ≤ maxLen → Calls Try.prog 29 #[.slice A T c] w fun e w' => End2 Kp y2 w w' e)
    (hy : Kp = 0 → y1[10]? = some (.int .i64 (tt : Int)) ∧ y1.setIfInBounds 10 (.int .i64 ((tt : Int) - 1)) = y2 ∧ IsG y1 ∧ IsG y2) :
    Calls Try.prog 6 #[.slice A n0 c] w fun e w' => e = .returned (.bool true) ∧ Below w.heap.size w w' := by
  have hn0 : n0 ≤ maxLen := by omega
  have hnc1 : n ≤ c := by omega
  have hB := Below.refl w.heap.size w
  have hx0 := hx.1
  obtain ⟨b, off, v0, rfl, hbl, hv0, hv0l, hc0⟩ := hx.byte (i := 0) (by omega)
  rw [Nat.add_zero] at hc0
  rw [hv0] at hv
  have z0 : T ≠ 0 := by omega
  have h500 : n ≤ 500 := by omega
  have tT : ((T : Int) == 0) = false := by rw [beq_eq_false_iff_ne]; omega
  replace hx := hide hx
  replace hn := hide hn
  replace hL := hide hL
  replace hT1 := hide hT1
  replace hT2 := hide hT2
  replace hsame := hide hsame
  replace hP1 := hide hP1
  replace hP2 := hide hP2
  replace hy := hide hy
  replace hv0 := hide hv0
  replace hU := hide hU
  replace hx0 := hide hx0
  replace hB := hide hB
  go_enter Try.func6, Try.ntmps6
  go_wp2_with fail
  refine (Tun.pcut_as _ n0 c n _ hn0 hnc hn.out).mono ?_
  rintro e w' ⟨rfl, rfl⟩
  go_wp2_with fail
  refine (hL.out _ hx.out).mono ?_
  rintro e w2 ⟨v2, rfl, h2, -, hb2⟩
  obtain ⟨A2, c2, rfl, hc2, hm2, hi2⟩ := (h2 rfl).form
  rw [hU.out] at hc2 hi2 ⊢
  obtain ⟨b2, off2, rfl, hbl2, -⟩ := hi2.2 (by omega)
  clear h2
  replace hB := hide (hB.out.trans (hb2.mono hB.out.size))
  clear hb2
  replace hi2 := hide hi2
  go_wp2_with fail
  refine (hT1.out _ (hx.out.on hB.out)).mono ?_
  rintro e w3 ⟨rfl, hb3⟩
  replace hB := hide (hB.out.trans (hb3.mono hB.out.size))
  replace hi2 := hide (hi2.out.on hb3)
  clear hb3
  go_wp2_with fail
  refine (hT2.out _ c2 _ hi2.out hc2 hm2).mono ?_
  rintro e w4 ⟨rfl, hb4⟩
  replace hB := hide (hB.out.trans (hb4.mono hB.out.size))
  replace hi2 := hide (hi2.out.on hb4)
  clear hb4
  clear hc0
  have hA4 := hx.out.on hB.out
  replace hA4 := hide hA4
  go_upto_region 11 with fail
  go_wp2_with fail
  go_loopw [11] (fun i wr => ∃ k : Nat, k ≤ T ∧ i = .int .i64 (k : Int) ∧ Below w4.heap.size w4 wr) (fun i _ => T - (intOf i).toNat)
  case atStart => exact ⟨0, Nat.zero_le _, rfl, Below.refl _ _⟩
  case round =>
    obtain ⟨k, hk, rfl, hbr⟩ := hrel
    have hA := hA4.out.on hbr
    have hX := hi2.out.on hbr
    by_cases hlt : k < T
    · have q1 : (k : Int) < (T : Int) := by omega
      have q2 : (0 : Int) ≤ (k : Int) := by omega
      have q3 : (k : Int) < (n : Int) := by omega
      have q4 : (0 : Int) < (n : Int) := by omega
      obtain ⟨u0, hu0, _, hc0⟩ := hA.byteAt (i := 0) (by omega)
      obtain rfl : v0 = u0 := hv0.out.symm.trans hu0
      obtain ⟨vb, hvb, hvbl, hcb⟩ := hA.byteAt (i := k) (by omega)
      obtain ⟨vx, hvx, hvxl, hcx⟩ := hX.byteAt (i := k) hlt
      rw [Nat.add_zero] at hc0
      have t4 : (((v0 : Int) / 16) == 4) = v4 := by
        rw [← hv, Bool.eq_iff_iff, beq_iff_eq, decide_eq_true_iff]
        omega
      obtain ⟨tb, htb⟩ : ∃ tb, turnB v4 k = tb := ⟨_, rfl⟩
      clear hu0 hA hX hv
      replace hbr := hide hbr
      replace hvb := hide hvb
      replace hvx := hide hvx
      replace htb := hide htb
      go_upto_region 15 with fail
      go_cut [13] (fun bv wx => bv = .bool tb ∧ wr = wx)
      case first =>
        have ht := htb.out
        clear hcb hcx hc0 t4
        rcases v4 with _ | _
        · by_cases k7 : k = 7
          · obtain rfl : true = tb := by rw [← ht]; simp [turnB, k7]
            subst k7
            go_wp2_with fail
            go_meet
            exact ⟨rfl, rfl⟩
          · obtain rfl : false = tb := by rw [← ht]; simp [turnB, k7]
            have t7 : ((k : Int) == 7) = false := by rw [beq_eq_false_iff_ne]; omega
            clear ht k7
            go_wp2_with fail
            go_meet
            exact ⟨rfl, rfl⟩
        · by_cases k8 : k = 8
          · obtain rfl : true = tb := by rw [← ht]; simp [turnB, k8]
            subst k8
            go_wp2_with fail
            go_meet
            exact ⟨rfl, rfl⟩
          have t8 : ((k : Int) == 8) = false := by rw [beq_eq_false_iff_ne]; omega
          by_cases k10 : k = 10
          · obtain rfl : true = tb := by rw [← ht]; simp [turnB, k10]
            subst k10
            go_wp2_with fail
            go_meet
            exact ⟨rfl, rfl⟩
          have t10 : ((k : Int) == 10) = false := by rw [beq_eq_false_iff_ne]; omega
          by_cases k11 : k = 11
          · obtain rfl : true = tb := by rw [← ht]; simp [turnB, k11]
            subst k11
            go_wp2_with fail
            go_meet
            exact ⟨rfl, rfl⟩
          have t11 : ((k : Int) == 11) = false := by rw [beq_eq_false_iff_ne]; omega
          obtain rfl : false = tb := by rw [← ht]; simp [turnB, k8, k10, k11]
          clear ht k8 k10 k11
          go_wp2_with fail
          go_meet
          exact ⟨rfl, rfl⟩
      case rest =>
      obtain ⟨rfl, rfl⟩ := hcut
      clear hc0 t4
      go_upto_region 16 with fail
      rcases tb with _ | _
      · have hvv : vx = vb := by
          have e := getD_of_get (hsame.out k hlt htb.out)
          rw [← hvx.out, ← hvb.out, e]
        subst hvv
        have hcbL := fun l : Later wr => l.cell hcb
        have hcxL := fun l : Later wr => l.cell hcx
        clear hcb hcx
        refine wp_region_L (by as_aux_lemma => kernel_rfl) ?_
        refine wpE_seg 0 13 (fuel := 0) (by as_aux_lemma => kernel_rfl) (fun d _ _ _ _ h => by cases d <;> exact h) (by as_aux_lemma => kernel_rfl) (by as_aux_lemma => kernel_rfl) ?_
        simp only [List.drop_zero, List.take_succ_cons, List.take_zero]
        iterate 13 (refine wpQE_step (fun K hK => ?_); go_simp; refine hK _ ?_; clear hK K)
        refine wpQE_nil ?_
        refine wpE_done (by as_aux_lemma => kernel_rfl) (fun w5 hb5 => ?_) 0
        have hb6 := hbr.out.trans (hb5.mono hbr.out.size)
        clear hcbL hcxL hb5
        replace hb6 := hide hb6
        go_wp2_with fail
        go_roundw
        case rel => exact ⟨k + 1, by omega, by go_num, hb6.out⟩
        case measure => simp [intOf]; omega
      · clear hcb hcx
        refine wp_region_L (by as_aux_lemma => kernel_rfl) ?_
        refine wpE_seg 0 13 (fuel := 0) (by as_aux_lemma => kernel_rfl) (fun d _ _ _ _ h => by cases d <;> exact h) (by as_aux_lemma => kernel_rfl) (by as_aux_lemma => kernel_rfl) ?_
        simp only [List.drop_zero, List.take_succ_cons, List.take_zero]
        iterate 2 (refine wpQE_step (fun K hK => ?_); go_simp; refine hK _ ?_; clear hK K)
        refine wpQE_val_skip (.bool false) 9 rfl (fun l => rfl) (by as_aux_lemma => kernel_rfl) ?_
        dsimp only [putU, List.take_succ_cons, List.take_zero, List.drop_succ_cons, List.drop_zero, Act.put]
        iterate 1 (refine wpQE_step (fun K hK => ?_); go_simp; refine hK _ ?_; clear hK K)
        refine wpQE_nil ?_
        refine wpE_done (by as_aux_lemma => kernel_rfl) (fun w5 hb5 => ?_) 0
        have hb6 := hbr.out.trans (hb5.mono hbr.out.size)
        clear hb5
        replace hb6 := hide hb6
        go_wp2_with fail
        go_roundw
        case rel => exact ⟨k + 1, by omega, by go_num, hb6.out⟩
        case measure => simp [intOf]; omega
    · obtain rfl : T = k := by omega
      replace hB := hide (hB.out.trans (hbr.mono hB.out.size))
      have hP1c := hP1.out wr hA
      have hP2c := fun w => hP2.out (some ⟨b2, off2, none⟩) c2 w
      have hys : Kp = 0 → y1.size = 23 ∧ y1.all (·.oneCell') = true := fun h => by
        obtain ⟨_, _, g1, _⟩ := hy.out h
        obtain ⟨v6, pr, sv, shi, slo, dv, dhi, dlo, sp, dp, ttl, fl, er, apr, asv, ashi, aslo, adv, adhi, adlo, asp, adp, sz, _, rfl⟩ := g1
        exact ⟨rfl, Pkt.pkG_one _ _ _ _ _ _ _ _ _ _ _ _ _ _ _ _ _ _ _ _ _ _ _⟩
      have hys2 : Kp = 0 → y2.size = 23 ∧ y2.all (·.oneCell') = true := fun h => by
        obtain ⟨_, _, _, g1⟩ := hy.out h
        obtain ⟨v6, pr, sv, shi, slo, dv, dhi, dlo, sp, dp, ttl, fl, er, apr, asv, ashi, aslo, adv, adhi, adlo, asp, adp, sz, _, rfl⟩ := g1
        exact ⟨rfl, Pkt.pkG_one _ _ _ _ _ _ _ _ _ _ _ _ _ _ _ _ _ _ _ _ _ _ _⟩
      clear hlt hk
      replace hi2 := hide hX
      clear hbr hA hX
      clear hA4
      replace hP1c := hide hP1c
      replace hP2c := hide hP2c
      replace hys := hide hys
      replace hys2 := hide hys2
      go_upto_region 18 with fail
      apply wp_region_lit
      iterate 1 (refine wpList_plain rfl fun K hK => ?_; go_simp; refine hK _ _ ?_; clear hK K)
      refine wpList_plain rfl fun K hK => ?_
      go_simp
      refine (hP1c.out).mono ?_
      rintro e w5 hE
      obtain ⟨z1, rfl, hz1s, hz1o, hz1, hb5⟩ := hE.letter hys.out
      replace hB := hide (hB.out.trans (hb5.mono hB.out.size))
      replace hi2 := hide (hi2.out.on hb5)
      clear hb5
      have zz5 := hB.out.size
      clear hE hP1c
      replace hz1 := hide hz1
      replace hz1o := hide hz1o
      go_simp
      refine hK _ _ ?_
      clear hK K
      iterate 3 (refine wpList_plain rfl fun K hK => ?_; go_simp; refine hK _ _ ?_; clear hK K)
      refine wpl_new rfl rfl 58 _ (alloc_pk _ rfl) 14 rfl (.tmp 132) rfl _ (fun _ => rfl) (fun _ => rfl) (by rw [pkZ_size]; exact hz1s) (by rw [size_pk, hz1s]) hz1o.out ?_
      intro w6 hg1 hb6 hz6
      replace hB := hide (hB.out.trans (hb6.mono hB.out.size))
      replace hi2 := hide (hi2.out.on hb6)
      clear hb6
      replace hg1 := hide hg1
      iterate 1 (refine wpList_plain rfl fun K hK => ?_; go_simp; refine hK _ _ ?_; clear hK K)
      refine wpList_nil ?_
      go_upto_region 19 with fail
      apply wp_region_lit
      iterate 1 (refine wpList_plain rfl fun K hK => ?_; go_simp; refine hK _ _ ?_; clear hK K)
      refine wpList_plain rfl fun K hK => ?_
      go_simp
      refine ((hP2c.out _ hi2.out hc2 hm2)).mono ?_
      rintro e w7 hE
      obtain ⟨z2, rfl, hz2s, hz2o, hz2, hb7⟩ := hE.letter hys2.out
      replace hB := hide (hB.out.trans (hb7.mono hB.out.size))
      replace hi2 := hide (hi2.out.on hb7)
      replace hg1 := hide (blk_on hb7 hg1.out)
      clear hb7
      have zk7 := blk_lt hg1.out
      clear hE hP2c
      replace hz2 := hide hz2
      replace hz2o := hide hz2o
      go_simp
      refine hK _ _ ?_
      clear hK K
      iterate 3 (refine wpList_plain rfl fun K hK => ?_; go_simp; refine hK _ _ ?_; clear hK K)
      refine wpl_new rfl rfl 58 _ (alloc_pk _ rfl) 16 rfl (.tmp 137) rfl _ (fun _ => rfl) (fun _ => rfl) (by rw [pkZ_size]; exact hz2s) (by rw [size_pk, hz2s]) hz2o.out ?_
      intro w8 hg2 hb8 hz8
      replace hB := hide (hB.out.trans (hb8.mono hB.out.size))
      replace hi2 := hide (hi2.out.on hb8)
      replace hg1 := hide (blk_on hb8 hg1.out)
      clear hb8
      replace hg2 := hide hg2
      iterate 1 (refine wpList_plain rfl fun K hK => ?_; go_simp; refine hK _ _ ?_; clear hK K)
      refine wpList_nil ?_
      obtain ⟨t10, ht10, htl10⟩ : ∃ t10 : Nat, z1[10]? = some (.int .i64 (t10 : Int)) ∧ t10 ≤ 255 := by
        rw [← hz1.out]
        by_cases hk : Kp = 0
        · rw [if_pos hk]
          exact ⟨tt, (hy.out hk).1, htl⟩
        · rw [if_neg hk]
          exact ⟨0, rfl, by omega⟩
      have hc10 := (blk_cell hg1.out 10).trans ht10
      have hf10 := blk_free hg1.out 10
      obtain ⟨w9, e9, hq9, g9⟩ := store_cell hg1.out 10 (.int .i64 ((t10 : Int) - 1))
      have zk : w7.heap.size ≠ w5.heap.size := by omega
      have hg29 := grown_other g9 (by omega) zk hg2.out
      have hB9 := hB.out.trans (below_grown g9 hB.out.size zz5)
      clear hg1 hg2 hB g9 hi2
      replace hq9 := hide hq9
      replace hg29 := hide hg29
      replace hB9 := hide hB9
      replace ht10 := hide ht10
      go_upto_region 21 with fail
      clear hc10 hf10 e9
      by_cases hk : Kp = 0
      · subst hk
        obtain ⟨h1, h2, -, h4⟩ := hy.out rfl
        obtain ⟨v6, pr, sv, shi, slo, dv, dhi, dlo, sp, dp, ttl, fl, er, apr, asv, ashi, aslo, adv, adhi, adlo, asp, adp, sz, hfl, hzE⟩ := h4
        have e1 : y1 = z1 := by have := hz1.out; rwa [if_pos rfl] at this
        have e2 : y2 = z2 := by have := hz2.out; rwa [if_pos rfl] at this
        have e3 : z1.setIfInBounds 10 (.int .i64 ((t10 : Int) - 1)) = y2 := by
          have h3 : t10 = tt := by
            have h5 := ht10.out
            rw [← e1, h1] at h5
            simp only [Option.some.injEq, Value.int.injEq, true_and] at h5
            omega
          rw [h3, ← e1, h2]
        have hq := hq9.out
        rw [e3] at hq
        have hq2 := hg29.out
        rw [← e2] at hq2
        have hys3 : y2.size = 23 := hzE ▸ rfl
        clear hq9 hg29 e1 e2 e3 h1 h2 hz1 hz2 ht10
        replace hq := hide hq
        replace hq2 := hide hq2
        replace hys3 := hide hys3
        replace hzE := hide hzE
        apply wp_region_lit
        iterate 4 (refine wpList_plain rfl fun K hK => ?_; go_simp; refine hK _ _ ?_; clear hK K)
        iterate 3 (refine wpList_step fun K hK => ?_; go_simp; refine hK _ _ ?_; clear hK K)
        refine wpl_val (.agg y2) rfl (run_ldw w9 _ 58 (.tmp 14) rfl w5.heap.size rfl y2 _ hq.out Try.underlying58 rfl (by rw [size_pk, hys3.out])) ?_
        dsimp only [Act.put]
        refine wpl_val (.agg y2) rfl (run_ldw w9 _ 58 (.tmp 16) rfl w7.heap.size rfl y2 _ hq2.out Try.underlying58 rfl (by rw [size_pk, hys3.out])) ?_
        dsimp only [Act.put]
        refine wpl_val (.bool true) rfl (Pkt.eql_pk v6 pr sv shi slo dv dhi dlo sp dp ttl fl er apr asv ashi aslo adv adhi adlo asp adp sz _ (.tmp 150) (.tmp 151) rfl (by rw [← hzE.out]; rfl) (by rw [← hzE.out]; rfl) w9) ?_
        dsimp only [Act.put]
        go_wp2_with fail
        refine (awake_any _).mono ?_
        rintro e w10 ⟨rfl, hb10⟩
        have hB10 := hB9.out.trans (hb10.mono hB9.out.size)
        clear hb10
        replace hB10 := hide hB10
        go_wp2_with fail
        go_ret
        exact ⟨rfl, hB10.out⟩
      · have t1 : ((Kp : Int) != 0) = true := by rw [bne_iff_ne]; omega
        clear hk
        go_wp2_with fail
        refine (awake_any _).mono ?_
        rintro e w10 ⟨rfl, hb10⟩
        have hB10 := hB9.out.trans (hb10.mono hB9.out.size)
        clear hb10
        replace hB10 := hide hB10
        go_wp2_with fail
        go_ret
        exact ⟨rfl, hB10.out⟩
end Tun
end Go.Proofs.Ytdmgbngdpjcliaa
/- The statement TunLess, walked whole. Conditions: a slice of bytes that reads as a list. -/
namespace Go.Proofs.Ytdmgbngdpjcliaa
open Go.RowKit Go.ChangeShapes Go.WideShapes Go.ChangeAt Go.Deep
namespace Tun
open Pkt (InEnd PIs)
set_option maxRecDepth 20000 in
set_option maxHeartbeats 4000000 in
theorem ttl_none (n : Nat) (xs : List UInt8) (h0 : n = 0) (A : Option Addr) (c : Nat) (w : World) :
    Calls Try.prog 24 #[.slice A n c] w fun e w' => e = .returned (.tuple #[.int .i64 0, .int .i64 0, .int .i64 2]) ∧ Below w.heap.size w w' := by
  subst h0
  go_enter Try.func24, Try.ntmps24
  go_wp2_with fail
  refine bodyPost_ret (v := .tuple #[.int .i64 0, .int .i64 0, .int .i64 2]) (by simp [results, Try.results24, go_sem]) rfl ⟨rfl, Below.refl _ _⟩
set_option maxRecDepth 20000 in
set_option maxHeartbeats 4000000 in
theorem ttl_else (n : Nat) (xs : List UInt8) (h0 : 0 < n) (hv : (xs.getD 0 0).toNat / 16 ≠ 4 ∧ (xs.getD 0 0).toNat / 16 ≠ 6) (A : Option Addr) (c : Nat) (w : World) (hx : IsB w w.heap.size A n xs) :
    Calls Try.prog 24 #[.slice A n c] w fun e w' => e = .returned (.tuple #[.int .i64 0, .int .i64 0, .int .i64 10]) ∧ Below w.heap.size w w' := by
  obtain ⟨b, off, v0, rfl, hbl, hv0, hv0l, hc0⟩ := hx.byte (i := 0) h0
  rw [Nat.add_zero] at hc0
  rw [hv0] at hv
  obtain ⟨k4, k6⟩ := hv
  have t1 : (((v0 : Int) / 16) == 4) = false := by rw [beq_eq_false_iff_ne]; omega
  have t4 : (((v0 : Int) / 16) == 6) = false := by rw [beq_eq_false_iff_ne]; omega
  have t2 : (0 : Int) < (n : Int) := by omega
  have t3 : ((n : Int) == 0) = false := by rw [beq_eq_false_iff_ne]; omega
  clear k4 k6
  replace hx := hide hx
  replace hv0 := hide hv0
  go_enter Try.func24, Try.ntmps24
  go_wp2_with fail
  refine bodyPost_ret (v := .tuple #[.int .i64 0, .int .i64 0, .int .i64 10]) (by simp [results, Try.results24, go_sem]) rfl ⟨rfl, Below.refl _ _⟩
set_option maxRecDepth 20000 in
set_option maxHeartbeats 4000000 in
theorem tunless_bad (n0 n c K : Nat) (xs U : List UInt8) (t s : Int) (hK : K ≠ 0) (A : Option Addr) (w : World) (hx : IsB w w.heap.size A n xs) (hn : min n0 500 = n) (hnc : n0 ≤ c) (hcm : c ≤ maxLen)
    (hL : ∀ w : World, IsB w w.heap.size A n xs → Calls Try.prog 28 #[.slice A n c] w fun e w' => InEnd K U w w' e)
    (hT1 : ∀ w : World, IsB w w.heap.size A n xs → Calls Try.prog 24 #[.slice A n c] w fun e w' => e = .returned (.tuple #[.int .i64 t, .int .i64 s, .int .i64 (K : Int)]) ∧ Below w.heap.size w w') :
    Calls Try.prog 6 #[.slice A n0 c] w fun e w' => e = .returned (.bool true) ∧ Below w.heap.size w w' := by
  have hn0 : n0 ≤ maxLen := by omega
  have hB := Below.refl w.heap.size w
  have t1 : ((K : Int) != 0) = true := by rw [bne_iff_ne]; omega
  replace hx := hide hx
  replace hn := hide hn
  replace hL := hide hL
  replace hT1 := hide hT1
  replace hB := hide hB
  go_enter Try.func6, Try.ntmps6
  go_wp2_with fail
  refine (Tun.pcut_as _ n0 c n _ hn0 hnc hn.out).mono ?_
  rintro e w' ⟨rfl, rfl⟩
  go_wp2_with fail
  refine (hL.out _ hx.out).mono ?_
  rintro e w2 ⟨v2, rfl, -, h2, hb2⟩
  obtain rfl := h2 hK
  clear h2
  replace hB := hide (hB.out.trans (hb2.mono hB.out.size))
  clear hb2
  go_wp2_with fail
  refine (hT1.out _ (hx.out.on hB.out)).mono ?_
  rintro e w3 ⟨rfl, hb3⟩
  replace hB := hide (hB.out.trans (hb3.mono hB.out.size))
  clear hb3
  go_wp2_with fail
  refine (awake_any _).mono ?_
  rintro e w4 ⟨rfl, hb4⟩
  replace hB := hide (hB.out.trans (hb4.mono hB.out.size))
  clear hb4
  go_wp2_with fail
  go_ret
  exact ⟨rfl, hB.out⟩
set_option maxRecDepth 20000 in
set_option maxHeartbeats 4000000 in
theorem tunless_old (n0 n c : Nat) (xs U : List UInt8) (t s : Int) (ht : t < 2) (A : Option Addr) (w : World) (hx : IsB w w.heap.size A n xs) (hn : min n0 500 = n) (hnc : n0 ≤ c) (hcm : c ≤ maxLen)
    (hL : ∀ w : World, IsB w w.heap.size A n xs → Calls Try.prog 28 #[.slice A n c] w fun e w' => InEnd 20 U w w' e)
    (hT1 : ∀ w : World, IsB w w.heap.size A n xs → Calls Try.prog 24 #[.slice A n c] w fun e w' => e = .returned (.tuple #[.int .i64 t, .int .i64 s, .int .i64 0]) ∧ Below w.heap.size w w') :
    Calls Try.prog 6 #[.slice A n0 c] w fun e w' => e = .returned (.bool true) ∧ Below w.heap.size w w' := by
  have hn0 : n0 ≤ maxLen := by omega
  have hB := Below.refl w.heap.size w
  replace hx := hide hx
  replace hn := hide hn
  replace hL := hide hL
  replace hT1 := hide hT1
  replace hB := hide hB
  go_enter Try.func6, Try.ntmps6
  go_wp2_with fail
  refine (Tun.pcut_as _ n0 c n _ hn0 hnc hn.out).mono ?_
  rintro e w' ⟨rfl, rfl⟩
  go_wp2_with fail
  refine (hL.out _ hx.out).mono ?_
  rintro e w2 ⟨v2, rfl, -, h2, hb2⟩
  obtain rfl := h2 (by omega)
  clear h2
  replace hB := hide (hB.out.trans (hb2.mono hB.out.size))
  clear hb2
  go_wp2_with fail
  refine (hT1.out _ (hx.out.on hB.out)).mono ?_
  rintro e w3 ⟨rfl, hb3⟩
  replace hB := hide (hB.out.trans (hb3.mono hB.out.size))
  clear hb3
  go_wp2_with fail
  refine (awake_any _).mono ?_
  rintro e w4 ⟨rfl, hb4⟩
  replace hB := hide (hB.out.trans (hb4.mono hB.out.size))
  clear hb4
  go_wp2_with fail
  go_ret
  exact ⟨rfl, hB.out⟩
theorem tunless_cut (n0 n c : Nat) (xs : List UInt8) (A : Option Addr) (w : World) (hx : IsB w w.heap.size A n xs) (hn : min n0 500 = n) (hnc : n0 ≤ c) (hcm : c ≤ maxLen) :
    Calls Try.prog 6 #[.slice A n0 c] w fun e w' => e = .returned (.bool true) ∧ Below w.heap.size w w' := by
  have hnc1 : n ≤ c := by omega
  have hxl := hx.1
  by_cases h0 : n = 0
  · exact tunless_bad n0 n c 2 xs [] 0 0 (by omega) A w hx hn hnc hcm
      (fun w hx => less_any n xs 2 [] A c w hx hnc1 hcm (fun _ => rfl) (fun h => absurd h (by omega)) (fun h => absurd h (by omega)) (fun h => absurd h (by omega)))
      (fun w _ => ttl_none n xs h0 A c w)
  have hn0 : 0 < n := by omega
  by_cases h4 : (xs.getD 0 0).toNat / 16 = 4
  · rcases four_case n xs hxl (by omega) with ⟨K, hK, _, hF⟩ | hok
    · exact tunless_bad n0 n c K xs [] (0 : Nat) (20 + 0 + 0 : Nat) hK A w hx hn hnc hcm
        (fun w hx => less_any n xs K [] A c w hx hnc1 hcm (fun h => absurd h h0) (fun _ _ w' hx' => less4_bad n xs K _ _ _ _ _ _ _ _ _ _ _ _ hK hF [] A c w' hx' hnc1 hcm) (fun _ h => absurd h (by omega)) (fun _ h => absurd h4 h))
        (fun w hx => ttl_four n xs K _ _ _ _ _ _ _ _ _ _ _ _ hF hn0 h4 (by omega) (by omega) A c w hx hnc1 hcm)
    obtain ⟨s, hs⟩ : ∃ s, (xs.getD 0 0).toNat % 16 * 4 = s := ⟨_, rfl⟩
    obtain ⟨al, hal⟩ : ∃ al, beN xs 2 2 = al := ⟨_, rfl⟩
    have hF := hok.is (by omega) s al hs hal
    have g3 := hok.h3
    have g4 := hok.h4
    have g6 := hok.h6
    have g7 := hok.h7
    rw [hs] at g3 g4 g6
    rw [hal] at g6 g7
    have e : 20 + (s - 20) + (al - s) = al := by omega
    have hT := fun (w : World) (hx : IsB w w.heap.size A n xs) => ttl_four n xs 0 _ _ _ _ _ _ _ _ _ _ _ _ hF hn0 h4 (by omega) (by omega) A c w hx hnc1 hcm
    rw [e] at hT
    by_cases h8 : (xs.getD 8 0).toNat < 2
    · exact tunless_old n0 n c xs [] ((xs.getD 8 0).toNat : Int) (al : Int) (by omega) A w hx hn hnc hcm
        (fun w hx => less_any n xs 20 [] A c w hx hnc1 hcm (fun h => absurd h h0) (fun _ _ w' hx' => less4_old n xs _ _ _ _ _ _ _ _ _ _ _ _ hF h8 [] A c w' hx' hnc1 hcm) (fun _ h => absurd h (by omega)) (fun _ h => absurd h4 h)) hT
    · obtain ⟨ho, hl, hl8, hsame, hrest⟩ := lessB4_ok hok s al hs hal (by omega)
      obtain ⟨Kp, y1, y2, hP1, hP2, hy⟩ := Pkt.less4_parse hok (by omega) al hal (by omega)
      have b8 := (xs.getD 8 0).toNat_lt
      have e0 : (lessB4 xs al).getD 0 0 = xs.getD 0 0 := getD_of_get (hsame 0 (by omega) (by omega) (by omega) (by omega))
      have e2 : beN (lessB4 xs al) 2 2 = al := (beN_congr _ _ _ _ fun i _ hi => getD_of_get (hsame i (by omega) (by omega) (by omega) (by omega))).trans hal
      have hF2 := ho.is (by omega) s al (by rw [e0]; exact hs) e2
      refine tunless_good true n0 n al c xs (lessB4 xs al) (xs.getD 8 0).toNat Kp y1 y2 A w hx hn hnc hcm (by omega) (by omega) (by omega) (by omega) (decide_eq_true h4) hl
        (fun w hx => less_any n xs 0 (lessB4 xs al) A c w hx hnc1 hcm (fun h => absurd h h0) (fun _ _ w' hx' => less4_yes n xs _ _ _ _ _ _ _ _ _ _ _ _ hF (by omega) al e (by omega) (by omega) (by omega) A c w' hx' hnc1 hcm) (fun _ h => absurd h (by omega)) (fun _ h => absurd h4 h))
        hT (fun A c w hx hc hcm => ?_) (fun k hk ht => ?_) (fun w hx => hP1 A c w hx hnc1 hcm) hP2 hy
      · have := ttl_four al (lessB4 xs al) 0 _ _ _ _ _ _ _ _ _ _ _ _ hF2 (by omega) (by rw [e0]; exact h4) (by omega) (by omega) A c w hx hc hcm
        rw [e, hl8, show (((xs.getD 8 0).toNat - 1 : Nat) : Int) = ((xs.getD 8 0).toNat : Int) - 1 by omega] at this
        exact this
      · unfold turnB at ht
        simp only [Bool.true_and, Bool.not_true, Bool.false_and, Bool.or_false, Bool.or_eq_false_iff, decide_eq_false_iff_not] at ht
        exact hsame k hk ht.1.1 ht.1.2 ht.2
  by_cases h6 : (xs.getD 0 0).toNat / 16 = 6
  · rcases six_case n xs hxl (by omega) with ⟨K, hK, _, hF⟩ | ⟨acc, nx, rest, hok⟩
    · exact tunless_bad n0 n c K xs [] 0 (40 + Six.sumP [] + 0 : Nat) hK A w hx hn hnc hcm
        (fun w hx => less_any n xs K [] A c w hx hnc1 hcm (fun h => absurd h h0) (fun _ h => absurd h h4) (fun _ _ w' hx' => less6_bad n xs K _ _ _ _ _ _ _ _ _ _ _ _ _ hF hK (by simp) [] A c w' hx' hnc1 hcm) (fun _ _ h => absurd h6 h))
        (fun w hx => ttl_six n xs K _ _ _ _ _ _ _ _ _ _ _ _ _ hF hn0 h6 (by simp) (by simp) (by omega) A c w hx hnc1 hcm)
    obtain ⟨f1, f2, f3, f4, f5, f6, f7, f8⟩ := hok.facts
    have hF := hok.is (by omega)
    obtain ⟨T, hT0⟩ : ∃ T, 40 + Six.sumP acc + rest.length = T := ⟨_, rfl⟩
    have hT := fun (w : World) (hx : IsB w w.heap.size A n xs) => ttl_six n xs 0 _ _ _ _ _ _ _ _ _ _ _ _ _ hF hn0 h6 f6 f7 (by omega) A c w hx hnc1 hcm
    rw [hT0] at hT
    by_cases h7 : (xs.getD 7 0).toNat < 2
    · exact tunless_old n0 n c xs [] ((xs.getD 7 0).toNat : Int) (T : Int) (by omega) A w hx hn hnc hcm
        (fun w hx => less_any n xs 20 [] A c w hx hnc1 hcm (fun h => absurd h h0) (fun _ h => absurd h h4) (fun _ _ w' hx' => less6_old n xs _ _ _ _ _ _ _ _ _ _ _ _ _ hF (by omega) f7 [] A c w' hx' hnc1 hcm) (fun _ _ h => absurd h6 h)) hT
    · obtain ⟨ho, hl, hl7, hsame⟩ := lessB6_ok hok T hT0
      obtain ⟨Kp, y1, y2, hP1, hP2, hy⟩ := Pkt.less6_parse hok (by omega) T hT0 (by omega)
      have b7 := (xs.getD 7 0).toNat_lt
      have e0 : (lessB6 xs T).getD 0 0 = xs.getD 0 0 := getD_of_get (hsame 0 (by omega) (by omega))
      have hF2 := ho.is (by omega)
      refine tunless_good false n0 n T c xs (lessB6 xs T) (xs.getD 7 0).toNat Kp y1 y2 A w hx hn hnc hcm (by omega) (by omega) (by omega) (by omega) (decide_eq_false h4) hl
        (fun w hx => less_any n xs 0 (lessB6 xs T) A c w hx hnc1 hcm (fun h => absurd h h0) (fun _ h => absurd h h4) (fun _ _ w' hx' => less6_yes n xs _ _ _ _ _ _ _ _ _ _ _ _ _ hF (by omega) f6 f7 T hT0 (by omega) (by omega) (by omega) A c w' hx' hnc1 hcm) (fun _ _ h => absurd h6 h))
        hT (fun A c w hx hc hcm => ?_) (fun k hk ht => ?_) (fun w hx => hP1 A c w hx hnc1 hcm) hP2 hy
      · have := ttl_six T (lessB6 xs T) 0 _ _ _ _ _ _ _ _ _ _ _ _ _ hF2 (by omega) (by rw [e0]; exact h6) f6 f7 (by omega) A c w hx hc hcm
        rw [hT0, hl7, show (((xs.getD 7 0).toNat - 1 : Nat) : Int) = ((xs.getD 7 0).toNat : Int) - 1 by omega] at this
        exact this
      · unfold turnB at ht
        simp only [Bool.false_and, Bool.not_false, Bool.true_and, Bool.false_or, decide_eq_false_iff_not] at ht
        exact hsame k hk ht
  exact tunless_bad n0 n c 10 xs [] 0 0 (by omega) A w hx hn hnc hcm
    (fun w hx => less_any n xs 10 [] A c w hx hnc1 hcm (fun h => absurd h h0) (fun _ h => absurd h h4) (fun _ h => absurd h h6) (fun _ _ _ => rfl))
    (fun w hx => ttl_else n xs hn0 ⟨h4, h6⟩ A c w hx)
theorem tunless_walk (A : Option Addr) (n0 c : Nat) (xs : List UInt8) (w : World) (hx : IsB w w.heap.size A n0 xs) (hnc : n0 ≤ c) (hcm : c ≤ maxLen) :
    Calls Try.prog 6 #[.slice A n0 c] w fun e w' => e = .returned (.bool true) ∧ Below w.heap.size w w' :=
  tunless_cut n0 _ c _ A w (hx.take (m := min n0 500) (by omega)) rfl hnc hcm
end Tun
end Go.Proofs.Ytdmgbngdpjcliaa
