/- Plain: bytes of a packet with another address and port, and their sums. No condition. -/
import Derived.Test.YtfmmmjaficbchaaQNatFlows4
import Derived.Test.YtfmmmjaficbchaaQNatFlows11
import Derived.Test.YtfmmmjaficbchaaQNatFlows15
import Derived.Test.YtfmmmjaficbchaaQNatFlows13
import Derived.Test.YtfmmmjaficbchaaQNatFlows14
import Derived.Test.YtfmmmjaficbchaaQNatFlows3
namespace Go.Proofs.Ytfmmmjaficbchaa
open Go.RowKit Go.ChangeShapes Go.WideShapes Go.ChangeAt Go.Deep
namespace Nat15
theorem tot_split (N : Nat) (l : List UInt8) : ∀ k, Sum.tot false (beB N (2 * k) ++ l) = (splitN N k).sum + Sum.tot false l
  | 0 => by simp [beB, splitN]
  | k + 1 => by
    rw [show 2 * (k + 1) = 2 * k + 1 + 1 by omega]
    simp only [beB, splitN, List.sum_cons, List.cons_append, Sum.tot, Bool.not_false, Bool.not_true, Bool.false_eq_true, if_false, if_true]
    rw [tot_split N l k, UInt8.toNat_ofNat', UInt8.toNat_ofNat']
    have e : 65536 ^ k = 256 ^ (2 * k) := by rw [Nat.pow_mul]
    rw [e, Nat.pow_succ, ← Nat.div_div_eq_div_mul]
    generalize N / 256 ^ (2 * k) = q
    omega
theorem tot_even (a b : List UInt8) (h : a.length % 2 = 0) : Sum.tot false (a ++ b) = Sum.tot false a + Sum.tot false b := by
  rw [Sum.tot_append, decide_eq_false (by omega)]
  rfl
theorem tot_setB (xs : List UInt8) (p : Nat) (ys : List UInt8) (hp : p % 2 = 0) (hy : ys.length % 2 = 0) (hl : p + ys.length ≤ xs.length) : Sum.tot false (setB xs p ys) + Sum.tot false ((xs.drop p).take ys.length) = Sum.tot false xs + Sum.tot false ys := by
  have ht : (xs.take p).length = p := by rw [List.length_take]; omega
  have h1 : Sum.tot false xs = Sum.tot false (xs.take p) + (Sum.tot false ((xs.drop p).take ys.length) + Sum.tot false (xs.drop (p + ys.length))) := by
    conv => lhs; rw [← List.take_append_drop p xs]
    rw [tot_even _ _ (by rw [ht]; exact hp)]
    congr 1
    conv => lhs; rw [← List.take_append_drop ys.length (xs.drop p)]
    rw [tot_even _ _ (by rw [List.length_take, List.length_drop]; omega), List.drop_drop]
  unfold setB
  rw [tot_even _ _ (by rw [ht]; exact hp), tot_even _ _ hy, h1]
  omega
/-- The sum of what goes into a check: the addresses' words, and what hangs on neither. -/
theorem tot_ahead (v6 : Bool) (pr sz : Nat) : ∃ C, (pr % 256 ≤ C) ∧ ∀ shi slo dhi dlo : Nat, Sum.tot false (Pkt.aheadB v6 shi slo dhi dlo pr sz) = (addrW v6 shi slo).sum + (addrW v6 dhi dlo).sum + C := by
  rcases v6 with _ | _
  · refine ⟨Sum.tot false ([0, UInt8.ofNat pr] ++ beB sz 2), ?_, fun shi slo dhi dlo => ?_⟩
    · simp only [List.cons_append, List.nil_append, Sum.tot]
      have : (UInt8.ofNat pr).toNat = pr % 256 := UInt8.toNat_ofNat'
      simp [this]
    · unfold Pkt.aheadB addrW
      rw [if_neg (by simp), if_neg (by simp), if_neg (by simp), List.append_assoc, List.append_assoc, tot_split slo _ 2, tot_split dlo _ 2]
      omega
  · refine ⟨Sum.tot false (beB sz 4 ++ [0, 0, 0, UInt8.ofNat pr]), ?_, fun shi slo dhi dlo => ?_⟩
    · rw [tot_even _ _ (by rw [beB_length])]
      simp only [Sum.tot]
      have : (UInt8.ofNat pr).toNat = pr % 256 := UInt8.toNat_ofNat'
      simp [this]
    · unfold Pkt.aheadB addrW Six.pseudoB
      rw [if_pos rfl, if_pos rfl, if_pos rfl]
      simp only [allB, List.flatMap_cons, List.flatMap_nil, List.append_nil, List.append_assoc, List.sum_append]
      rw [tot_split shi _ 4, tot_split slo _ 4, tot_split dhi _ 4, tot_split dlo _ 4]
      omega
theorem addrW_length (v6 : Bool) (hi lo : Nat) : (addrW v6 hi lo).length = if v6 = true then 8 else 2 := by
  unfold addrW
  split
  · rw [List.length_append, splitN_length, splitN_length]
  · rw [splitN_length]
theorem addrW_le (v6 : Bool) (hi lo : Nat) : ∀ x ∈ addrW v6 hi lo, x ≤ 65535 := by
  unfold addrW
  split
  · intro x hx
    rcases List.mem_append.1 hx with h | h
    · exact splitN_le _ _ x h
    · exact splitN_le _ _ x h
  · exact splitN_le _ _
theorem tot_addr (v6 : Bool) (hi lo : Nat) : Sum.tot false (addrB v6 hi lo) = (addrW v6 hi lo).sum := by
  unfold addrB addrW
  rcases v6 with _ | _
  · have := tot_split lo [] 2
    rw [List.append_nil] at this
    simpa [Sum.tot] using this
  · have h1 := tot_split hi (beB lo 8) 4
    have h2 := tot_split lo [] 4
    rw [List.append_nil] at h2
    simp only [if_true, List.sum_append]
    rw [show (2 * 4) = 8 from rfl] at h1 h2
    rw [h1, h2]
    simp [Sum.tot]
/-! ### What is behind the header -/
/-- Where the check stands. -/
def whR (udp : Bool) : Nat := if udp = true then 6 else 16
/-- A segment, or a datagram, with another port, under another address. -/
def turnR (udp : Bool) (R : List UInt8) (s port : Nat) (fs ts : List Nat) : List UInt8 :=
  if udp = true ∧ beN R 6 2 = 0 then setB R (2 * s) (beB port 2)
  else setB (setB R (2 * s) (beB port 2)) (whR udp) (beB (if udp = true ∧ wordsT (beN R (whR udp) 2) (fs ++ [beN R (2 * s) 2]) (ts ++ [port]) = 0 then 65535 else wordsT (beN R (whR udp) 2) (fs ++ [beN R (2 * s) 2]) (ts ++ [port])) 2)
theorem turnR_get (udp : Bool) (R : List UInt8) (s port : Nat) (fs ts : List Nat) (hs : s ≤ 1) (hl : whR udp + 2 ≤ R.length) :
    (turnR udp R s port fs ts).length = R.length ∧ ∀ i, i ≠ 2 * s → i ≠ 2 * s + 1 → i ≠ whR udp → i ≠ whR udp + 1 → (turnR udp R s port fs ts)[i]? = R[i]? := by
  have hw : 6 ≤ whR udp := by unfold whR; split <;> omega
  have l1 : (setB R (2 * s) (beB port 2)).length = R.length := setB_length _ _ _ (by rw [beB_length]; omega)
  unfold turnR
  split
  · exact ⟨l1, fun i h1 h2 _ _ => setB_get_out _ _ _ (by rw [beB_length]; omega) i (by rw [beB_length]; omega)⟩
  · refine ⟨by rw [setB_length _ _ _ (by rw [beB_length, l1]; omega), l1], fun i h1 h2 h3 h4 => ?_⟩
    rw [setB_get_out _ _ _ (by rw [beB_length, l1]; omega) i (by rw [beB_length]; omega), setB_get_out _ _ _ (by rw [beB_length]; omega) i (by rw [beB_length]; omega)]
theorem turnR_port (udp : Bool) (R : List UInt8) (s port : Nat) (fs ts : List Nat) (hs : s ≤ 1) (hl : whR udp + 2 ≤ R.length) (hp : port ≤ 65535) :
    beN (turnR udp R s port fs ts) (2 * s) 2 = port ∧ beN (turnR udp R s port fs ts) (2 - 2 * s) 2 = beN R (2 - 2 * s) 2 := by
  have hw : 6 ≤ whR udp := by unfold whR; split <;> omega
  have hg := turnR_get udp R s port fs ts hs hl
  have l1 : (setB R (2 * s) (beB port 2)).length = R.length := setB_length _ _ _ (by rw [beB_length]; omega)
  refine ⟨?_, beN_congr _ _ _ _ fun i h1 h2 => getD_of_get (hg.2 i (by omega) (by omega) (by omega) (by omega))⟩
  unfold turnR
  split
  · exact beN_setB2 _ _ _ (by omega) (by omega)
  · rw [beN_congr _ (setB R (2 * s) (beB port 2)) _ _ fun i h1 h2 => setB_getD_out _ _ _ (by rw [beB_length, l1]; omega) i (by rw [beB_length]; omega)]
    exact beN_setB2 _ _ _ (by omega) (by omega)
/-- The check, behind. -/
theorem turnR_check (udp : Bool) (R : List UInt8) (s port : Nat) (fs ts : List Nat) (hs : s ≤ 1) (hl : whR udp + 2 ≤ R.length) (hp : port ≤ 65535) (P P' : Nat) (hft : fs.length = ts.length) (hfs : ∀ x ∈ fs, x ≤ 65535) (hP : P' + fs.sum = P + ts.sum) :
    (udp = true → beN R 6 2 = 0 → beN (turnR udp R s port fs ts) 6 2 = 0) ∧
    (¬ (udp = true ∧ beN R 6 2 = 0) → (udp = true → beN (turnR udp R s port fs ts) 6 2 ≠ 0) ∧ (P' + Sum.tot false (turnR udp R s port fs ts)) % 65535 = (P + Sum.tot false R) % 65535) := by
  have hw : 6 ≤ whR udp := by unfold whR; split <;> omega
  have hwe : whR udp % 2 = 0 := by unfold whR; split <;> rfl
  have l1 : (setB R (2 * s) (beB port 2)).length = R.length := setB_length _ _ _ (by rw [beB_length]; omega)
  have c6 : beN (setB R (2 * s) (beB port 2)) (whR udp) 2 = beN R (whR udp) 2 := beN_congr _ _ _ _ fun i h1 h2 => setB_getD_out _ _ _ (by rw [beB_length]; omega) i (by rw [beB_length]; omega)
  constructor
  · rintro rfl h0
    unfold turnR
    rw [if_pos ⟨rfl, h0⟩]
    exact c6.trans h0
  · intro hne
    unfold turnR
    rw [if_neg hne]
    obtain ⟨c, hc⟩ : ∃ c, beN R (whR udp) 2 = c := ⟨_, rfl⟩
    obtain ⟨f, hf⟩ : ∃ f, beN R (2 * s) 2 = f := ⟨_, rfl⟩
    have bc : c < 65536 := hc ▸ beN_lt R (whR udp) 2
    have bf : f < 65536 := hf ▸ beN_lt R (2 * s) 2
    rw [hc, hf]
    obtain ⟨c', hc'⟩ : ∃ c', wordsT c (fs ++ [f]) (ts ++ [port]) = c' := ⟨_, rfl⟩
    have bc' : c' ≤ 65535 := hc' ▸ wordsT_le _ _ c (by omega)
    have hm := wordsT_mod (fs ++ [f]) (ts ++ [port]) c (by simp [hft]) (by omega) (by
      intro x hx
      rcases List.mem_append.1 hx with h | h
      · exact hfs x h
      · rw [List.mem_singleton.1 h]; omega)
    rw [hc', List.sum_append, List.sum_append, List.sum_singleton, List.sum_singleton] at hm
    rw [hc']
    obtain ⟨c2, hc2⟩ : ∃ c2, (if udp = true ∧ c' = 0 then 65535 else c') = c2 := ⟨_, rfl⟩
    rw [hc2]
    have b2 : c2 ≤ 65535 := by rw [← hc2]; split <;> omega
    have m2 : c2 % 65535 = c' % 65535 := by
      rw [← hc2]
      split
      · rename_i h; rw [h.2]
      · rfl
    have q1 := Sum.tot_setB2 R (2 * s) port (by omega) (by omega) (by omega)
    have q2 := Sum.tot_setB2 (setB R (2 * s) (beB port 2)) (whR udp) c2 hwe (by omega) (by omega)
    rw [c6, hc] at q2
    rw [hf] at q1
    refine ⟨fun hu => ?_, by omega⟩
    subst hu
    have : beN (setB (setB R (2 * s) (beB port 2)) (whR true) (beB c2 2)) 6 2 = c2 := beN_setB2 _ _ _ (by omega) (by omega)
    rw [this, ← hc2]
    split
    · omega
    · rename_i h
      exact fun h0 => h ⟨rfl, h0⟩
end Nat15
end Go.Proofs.Ytfmmmjaficbchaa
/- pkt.Parse of what pkt.Datagram and pkt.Segment make: the flow itself. Conditions: numbers that may be, at most 4000 bytes behind the headers. -/
namespace Go.Proofs.Ytfmmmjaficbchaa
open Go.RowKit Go.ChangeShapes Go.WideShapes Go.ChangeAt Go.Deep
namespace Pkt
/-- A packet of a flow. -/
def pkA (v6 : Bool) (pr shi slo dhi dlo : Nat) (sp dp ttl fl sz : Int) : Array Value := #[.bool v6, .int .i64 (pr : Int), .bool v6, .int .u64 (shi : Int), .int .u64 (slo : Int), .bool v6, .int .u64 (dhi : Int), .int .u64 (dlo : Int), .int .i64 sp, .int .i64 dp, .int .i64 ttl, .int .i64 fl, .bool false, .int .i64 0, .bool false, .int .u64 0, .int .u64 0, .bool false, .int .u64 0, .int .u64 0, .int .i64 0, .int .i64 0, .int .i64 sz]
theorem pkA_size (v6 : Bool) (pr shi slo dhi dlo : Nat) (sp dp ttl fl sz : Int) : (pkA v6 pr shi slo dhi dlo sp dp ttl fl sz).size = 23 := rfl
theorem pkA_one (v6 : Bool) (pr shi slo dhi dlo : Nat) (sp dp ttl fl sz : Int) : (pkA v6 pr shi slo dhi dlo sp dp ttl fl sz).all (·.oneCell') = true := all_oneCell_toArray (by
  intro v hv
  simp only [List.mem_cons, List.not_mem_nil, or_false] at hv
  rcases hv with rfl | rfl | rfl | rfl | rfl | rfl | rfl | rfl | rfl | rfl | rfl | rfl | rfl | rfl | rfl | rfl | rfl | rfl | rfl | rfl | rfl | rfl | rfl <;> rfl)
theorem upis_dg (cs : Array Value) (hcs : cs.size = 23) (hone : cs.all (·.oneCell') = true) (v6 : Bool) (h0 : cs[0]? = some (.bool v6)) (h1 : cs[1]? = some (.int .i64 17)) (errs : Int) (U ps : List UInt8) (hU : U.length ≤ 4096) (hp : ps.length ≤ 4096) (s d : Nat) (hK : Udp.parseK (!v6) ps U = 0) (hs : beN U 0 2 = s) (hd : beN U 2 2 = d) :
    UpIs cs errs U ps 0 (udpA cs s d) := fun A P c dd w hx hpw hc hcm => upper_udp cs hcs hone v6 h0 17 h1 errs A P c dd U ps w hx hpw hc hcm (by omega) (by unfold maxLen; omega) rfl 0 hK _ (fun _ => by unfold Udp.parseS; rw [if_pos rfl, if_pos rfl, hs, hd])
theorem upis_sg (cs : Array Value) (hcs : cs.size = 23) (hone : cs.all (·.oneCell') = true) (v6 : Bool) (h0 : cs[0]? = some (.bool v6)) (h1 : cs[1]? = some (.int .i64 6)) (errs : Int) (U ps : List UInt8) (hU : U.length ≤ 4096) (hp : ps.length ≤ 4096) (s d fl : Nat) (hK : Tcp.parseK ps U = 0) (hs : beN U 0 2 = s) (hd : beN U 2 2 = d) (hf : (U.getD 13 0).toNat = fl) :
    UpIs cs errs U ps 0 (tcpA cs s d fl) := fun A P c dd w hx hpw hc hcm => upper_tcp cs hcs hone v6 h0 6 h1 errs A P c dd U ps w hx hpw hc hcm (by omega) (by unfold maxLen; omega) rfl 0 hK _ (fun _ => by unfold Tcp.parseS Tcp.parseF; rw [if_pos rfl, if_pos rfl, if_pos rfl, hs, hd, hf])
/-- pkt.Parse of a plain header and what is behind it. -/
theorem parse_wrap4 (slo dlo pr ttl : Nat) (U : List UInt8) (hsl : slo < 4294967296) (hdl : dlo < 4294967296) (hpr : pr ≤ 255) (ht : ttl ≤ 255) (hU : U.length ≤ 4096) (K : Nat) (y : Array Value) (hy : K = 0 → y.size = 23 ∧ y.all (·.oneCell') = true)
    (hup : UpIs (p4A pr slo dlo ttl (20 + 0 + U.length)) 1 U (ps4 slo dlo pr U.length) K y)
    (A : Option Addr) (n c : Nat) (w : World) (hx : IsB w w.heap.size A n (wrapB false 0 slo 0 dlo pr ttl U)) (hnc : n ≤ c) (hcm : c ≤ maxLen) :
    Calls Try.prog 12 #[.slice A n c] w fun e w' => End2 K y w w' e := by
  have hw : wrapB false 0 slo 0 dlo pr ttl U = Four.hdB 0 0 0 ttl pr slo dlo [] U.length ++ U := by
    unfold wrapB
    rw [if_neg (by simp), Int.toNat_natCast]
  rw [hw] at hx
  obtain ⟨xs, hxs⟩ : ∃ xs, Four.hdB 0 0 0 ttl pr slo dlo [] U.length ++ U = xs := ⟨_, rfl⟩
  have hlen : xs.length = 20 + U.length := by rw [← hxs, List.length_append, Four.hdB_length]; rfl
  rw [hxs] at hx
  have hxn := hx.1
  obtain ⟨p1, p2, p3, p4, p5, p6, p7, p8, p9, p10, p11, p12, p13, p14, p15⟩ := Four.puts_get 0 0 0 ttl pr slo dlo [] U [] 0 U.length rfl rfl (by omega) (by omega) (by omega) ht hpr hsl hdl (by omega) (by omega) hU xs (by rw [List.append_nil]; exact hxs)
  have hF := Tun.four_ok n xs (by omega) (by omega) p1 20 (by omega) (by omega) (by omega) p4 (by omega) (by omega) p5
  rw [p3, p6, p7, p8, p9, p10, p11, p12, p14, show 20 + 0 + U.length - 20 = 0 + U.length by omega, Nat.zero_add] at hF
  exact Parse_four n xs (by omega) (by omega) p1 K y hy (fun A c w hx hc hcm => parse4_ok n xs 0 0 _ ttl pr slo dlo 0 U.length U hF (by omega) hpr hsl hdl rfl K y hup hy A c w hx hc hcm) A c w hx hnc hcm
theorem parse_wrap6 (shi slo dhi dlo pr ttl : Nat) (U : List UInt8) (h4 : shi < 18446744073709551616) (h5 : slo < 18446744073709551616) (h6 : dhi < 18446744073709551616) (h7 : dlo < 18446744073709551616) (hpr : pr ≤ 255) (hib : Six.isB (pr : Int) = false) (ht : ttl ≤ 255) (hU : U.length ≤ 4096) (K : Nat) (y : Array Value) (hy : K = 0 → y.size = 23 ∧ y.all (·.oneCell') = true)
    (hup : UpIs (p6A pr shi slo dhi dlo ttl (40 + U.length)) 58 U (Six.pseudoB shi slo dhi dlo U.length pr) K y)
    (A : Option Addr) (n c : Nat) (w : World) (hx : IsB w w.heap.size A n (wrapB true shi slo dhi dlo pr ttl U)) (hnc : n ≤ c) (hcm : c ≤ maxLen) :
    Calls Try.prog 12 #[.slice A n c] w fun e w' => End2 K y w w' e := by
  have hw : wrapB true shi slo dhi dlo pr ttl U = Six.allB6 0 0 ttl shi slo dhi dlo pr [] U := by
    unfold wrapB
    rw [if_pos rfl, Int.toNat_natCast]
  rw [hw] at hx
  obtain ⟨xs, hxs⟩ : ∃ xs, Six.allB6 0 0 ttl shi slo dhi dlo pr [] U = xs := ⟨_, rfl⟩
  have hlen : xs.length = 40 + U.length := by rw [← hxs, Six.allB6_length]; rfl
  rw [hxs] at hx
  have hxn := hx.1
  have hr : Six.rightHB (0 : Nat) (0 : Nat) (ttl : Nat) true true pr [] = true := by
    rw [Six.rightHB_yes ⟨by omega, by omega, by omega, by omega, by omega, by omega, rfl, rfl, by omega, by omega, hib, by simp⟩]
    rfl
  obtain ⟨p1, p2, _, _, p5, p6, p7, p8, p9, p10, p11⟩ := Six.puts_parse 0 0 ttl shi slo dhi dlo pr [] U [] xs hr h4 h5 h6 h7 hU (by rw [List.append_nil]; exact hxs)
  rw [hxn] at p1
  have hF := Tun.six_ok n xs (by omega) [] pr U p1 p2
  rw [p5, p6, p7, p8, p9, p10, p11] at hF
  have hv : (xs.getD 0 0).toNat / 16 = 6 := by
    by_cases h : (xs.getD 0 0).toNat / 16 = 6
    · exact h
    · unfold Six.parseK at p1
      rw [if_neg (by omega), if_pos h] at p1
      omega
  exact Parse_six n xs (by omega) (by omega) hv K y hy (fun A c w hx hc hcm => parse6_ok n xs 0 0 ttl shi slo dhi dlo [] pr U.length U hF (by simp) (by simp) (by decide) (by decide) (by omega) hpr h4 h5 h6 h7 rfl 40 (by decide) K y hup hy A c w hx hc hcm) A c w hx hnc hcm
theorem udpA4 (slo dlo ttl sz s d : Nat) : udpA (p4A 17 slo dlo ttl sz) s d = pkA false 17 0 slo 0 dlo s d ttl 0 sz := rfl
theorem tcpA4 (slo dlo ttl sz s d fl : Nat) : tcpA (p4A 6 slo dlo ttl sz) s d fl = pkA false 6 0 slo 0 dlo s d ttl fl sz := rfl
theorem udpA6 (shi slo dhi dlo ttl sz s d : Nat) : udpA (p6A 17 shi slo dhi dlo ttl sz) s d = pkA true 17 shi slo dhi dlo s d ttl 0 sz := rfl
theorem tcpA6 (shi slo dhi dlo ttl sz s d fl : Nat) : tcpA (p6A 6 shi slo dhi dlo ttl sz) s d fl = pkA true 6 shi slo dhi dlo s d ttl fl sz := rfl
theorem ps4_even (slo dlo pr m : Nat) : (ps4 slo dlo pr m).length = 12 := by simp [ps4, beB_length]
theorem ps6_even (shi slo dhi dlo m pr : Nat) : (Six.pseudoB shi slo dhi dlo m pr).length = 40 := by simp [Six.pseudoB, beB_length, allB]
/-- A datagram that was made is parsed as its flow. -/
theorem parse_dgm (sv : Bool) (shi slo dhi dlo : Nat) (sp dp ttl : Int) (xs : List UInt8) (hxs : xs.length ≤ 4000) (h4 : shi < 18446744073709551616) (h5 : slo < 18446744073709551616) (h6 : dhi < 18446744073709551616) (h7 : dlo < 18446744073709551616)
    (hk : dgmK 17 sv shi slo sv dhi dlo sp dp ttl = 0) (n : Nat) (hn : (if sv = true then 40 else 20) + 8 + xs.length = n)
    (A : Option Addr) (c : Nat) (w : World) (hx : IsB w w.heap.size A n (wrapB sv shi slo dhi dlo 17 ttl (dgU sv shi slo dhi dlo sp dp xs))) (hnc : n ≤ c) (hcm : c ≤ maxLen) :
    Calls Try.prog 12 #[.slice A n c] w fun e w' => End2 0 (pkA sv 17 shi slo dhi dlo sp dp ttl 0 n) w w' e := by
  have hl := dgU_length sv shi slo dhi dlo sp dp xs
  unfold dgmK at hk
  rw [if_neg (by simp)] at hk
  have hd : dgK sp dp = 0 := by
    by_cases h : dgK sp dp = 0
    · exact h
    · rw [if_neg h] at hk; exact absurd hk h
  rw [if_pos hd] at hk
  have hr : Udp.rightP sp dp = true := by
    unfold dgK at hd
    split at hd
    · assumption
    · omega
  unfold Udp.rightP at hr
  rw [decide_eq_true_eq] at hr
  obtain ⟨s, rfl⟩ : ∃ s : Nat, sp = (s : Int) := ⟨sp.toNat, by omega⟩
  obtain ⟨d, rfl⟩ : ∃ s : Nat, dp = (s : Int) := ⟨dp.toNat, by omega⟩
  unfold wrapK at hk
  have hdgs : ∀ ps, aheadB sv shi slo dhi dlo 17 (8 + xs.length) = ps → dgU sv shi slo dhi dlo s d xs = Udp.dgB ps s d xs := fun ps hps => by
    unfold dgU
    rw [hps]
    rfl
  rcases sv with _ | _
  · rw [if_neg (by simp)] at hk
    unfold fourK at hk
    split at hk
    case isFalse => omega
    rename_i hh
    obtain ⟨t1, t2, o1, o2⟩ := hh
    obtain ⟨rfl, hsl⟩ := okA_four o1
    obtain ⟨rfl, hdl⟩ := okA_four o2
    obtain ⟨t, rfl⟩ : ∃ s : Nat, ttl = (s : Int) := ⟨ttl.toNat, by omega⟩
    have hps : aheadB false 0 slo 0 dlo 17 (8 + xs.length) = ps4 slo dlo 17 (8 + xs.length) := rfl
    rw [hdgs _ hps] at hx hl
    obtain ⟨g1, g2, g3, g4, _⟩ := Udp.dg_parse (!false) (ps4 slo dlo 17 (8 + xs.length)) s d xs (by rw [ps4_even]) (by omega) (by omega) (by omega)
    have hup := upis_dg (p4A 17 slo dlo t n) rfl (p4A_one _ _ _ _ _) false rfl rfl 1 _ (ps4 slo dlo 17 (8 + xs.length)) (by omega) (by rw [ps4_even]; omega) s d g1 g2 g3
    rw [udpA4] at hup
    refine parse_wrap4 slo dlo 17 t _ hsl hdl (by omega) (by omega) (by omega) 0 _ (fun _ => ⟨pkA_size _ _ _ _ _ _ _ _ _ _ _, pkA_one _ _ _ _ _ _ _ _ _ _ _⟩) ?_ A n c w hx hnc hcm
    rw [hl, show 20 + 0 + (8 + xs.length) = n by rw [← hn]; simp; omega]
    exact hup
  · rw [if_pos rfl] at hk
    unfold ttlK at hk
    split at hk
    case isFalse => omega
    rename_i hh
    obtain ⟨t, rfl⟩ : ∃ s : Nat, ttl = (s : Int) := ⟨ttl.toNat, by omega⟩
    have hps : aheadB true shi slo dhi dlo 17 (8 + xs.length) = Six.pseudoB shi slo dhi dlo (8 + xs.length) 17 := rfl
    rw [hdgs _ hps] at hx hl
    obtain ⟨g1, g2, g3, g4, _⟩ := Udp.dg_parse (!true) (Six.pseudoB shi slo dhi dlo (8 + xs.length) 17) s d xs (by rw [ps6_even]) (by omega) (by omega) (by omega)
    have hup := upis_dg (p6A 17 shi slo dhi dlo t n) rfl (p6A_one _ _ _ _ _ _ _) true rfl rfl 58 _ (Six.pseudoB shi slo dhi dlo (8 + xs.length) 17) (by omega) (by rw [ps6_even]; omega) s d g1 g2 g3
    rw [udpA6] at hup
    refine parse_wrap6 shi slo dhi dlo 17 t _ h4 h5 h6 h7 (by omega) (by decide) (by omega) (by omega) 0 _ (fun _ => ⟨pkA_size _ _ _ _ _ _ _ _ _ _ _, pkA_one _ _ _ _ _ _ _ _ _ _ _⟩) ?_ A n c w hx hnc hcm
    rw [hl, show 40 + (8 + xs.length) = n by rw [← hn]; simp; omega]
    exact hup
/-- A segment that was made is parsed as its flow. -/
theorem parse_sgm (sv : Bool) (shi slo dhi dlo : Nat) (sp dp fl ttl : Int) (xs : List UInt8) (hxs : xs.length ≤ 4000) (h4 : shi < 18446744073709551616) (h5 : slo < 18446744073709551616) (h6 : dhi < 18446744073709551616) (h7 : dlo < 18446744073709551616)
    (hk : sgmK 6 sv shi slo sv dhi dlo sp dp fl ttl = 0) (n : Nat) (hn : (if sv = true then 40 else 20) + 20 + xs.length = n)
    (A : Option Addr) (c : Nat) (w : World) (hx : IsB w w.heap.size A n (wrapB sv shi slo dhi dlo 6 ttl (sgU sv shi slo dhi dlo sp dp fl xs))) (hnc : n ≤ c) (hcm : c ≤ maxLen) :
    Calls Try.prog 12 #[.slice A n c] w fun e w' => End2 0 (pkA sv 6 shi slo dhi dlo sp dp ttl fl n) w w' e := by
  have hl := sgU_length sv shi slo dhi dlo sp dp fl xs
  unfold sgmK at hk
  rw [if_neg (by simp)] at hk
  have hd : sgK sp dp fl = 0 := by
    by_cases h : sgK sp dp fl = 0
    · exact h
    · rw [if_neg h] at hk; exact absurd hk h
  rw [if_pos hd] at hk
  have hr : Tcp.rightP sp dp fl = true := by
    unfold sgK at hd
    split at hd
    · assumption
    · omega
  unfold Tcp.rightP at hr
  rw [decide_eq_true_eq] at hr
  obtain ⟨s, rfl⟩ : ∃ s : Nat, sp = (s : Int) := ⟨sp.toNat, by omega⟩
  obtain ⟨d, rfl⟩ : ∃ s : Nat, dp = (s : Int) := ⟨dp.toNat, by omega⟩
  obtain ⟨f, rfl⟩ : ∃ s : Nat, fl = (s : Int) := ⟨fl.toNat, by omega⟩
  unfold wrapK at hk
  have hdgs : ∀ ps, aheadB sv shi slo dhi dlo 6 (20 + xs.length) = ps → sgU sv shi slo dhi dlo s d f xs = Tcp.sgB ps s d f xs := fun ps hps => by
    unfold sgU
    rw [hps]
    rfl
  rcases sv with _ | _
  · rw [if_neg (by simp)] at hk
    unfold fourK at hk
    split at hk
    case isFalse => omega
    rename_i hh
    obtain ⟨t1, t2, o1, o2⟩ := hh
    obtain ⟨rfl, hsl⟩ := okA_four o1
    obtain ⟨rfl, hdl⟩ := okA_four o2
    obtain ⟨t, rfl⟩ : ∃ s : Nat, ttl = (s : Int) := ⟨ttl.toNat, by omega⟩
    have hps : aheadB false 0 slo 0 dlo 6 (20 + xs.length) = ps4 slo dlo 6 (20 + xs.length) := rfl
    rw [hdgs _ hps] at hx hl
    obtain ⟨g1, g2, g3, g5, g4, _⟩ := Tcp.sg_parse (ps4 slo dlo 6 (20 + xs.length)) s d f xs (by rw [ps4_even]) (by omega) (by omega) (by omega)
    have hup := upis_sg (p4A 6 slo dlo t n) rfl (p4A_one _ _ _ _ _) false rfl rfl 1 _ (ps4 slo dlo 6 (20 + xs.length)) (by omega) (by rw [ps4_even]; omega) s d f g1 g2 g3 g5
    rw [tcpA4] at hup
    refine parse_wrap4 slo dlo 6 t _ hsl hdl (by omega) (by omega) (by omega) 0 _ (fun _ => ⟨pkA_size _ _ _ _ _ _ _ _ _ _ _, pkA_one _ _ _ _ _ _ _ _ _ _ _⟩) ?_ A n c w hx hnc hcm
    rw [hl, show 20 + 0 + (20 + xs.length) = n by rw [← hn]; simp; omega]
    exact hup
  · rw [if_pos rfl] at hk
    unfold ttlK at hk
    split at hk
    case isFalse => omega
    rename_i hh
    obtain ⟨t, rfl⟩ : ∃ s : Nat, ttl = (s : Int) := ⟨ttl.toNat, by omega⟩
    have hps : aheadB true shi slo dhi dlo 6 (20 + xs.length) = Six.pseudoB shi slo dhi dlo (20 + xs.length) 6 := rfl
    rw [hdgs _ hps] at hx hl
    obtain ⟨g1, g2, g3, g5, g4, _⟩ := Tcp.sg_parse (Six.pseudoB shi slo dhi dlo (20 + xs.length) 6) s d f xs (by rw [ps6_even]) (by omega) (by omega) (by omega)
    have hup := upis_sg (p6A 6 shi slo dhi dlo t n) rfl (p6A_one _ _ _ _ _ _ _) true rfl rfl 58 _ (Six.pseudoB shi slo dhi dlo (20 + xs.length) 6) (by omega) (by rw [ps6_even]; omega) s d f g1 g2 g3 g5
    rw [tcpA6] at hup
    refine parse_wrap6 shi slo dhi dlo 6 t _ h4 h5 h6 h7 (by omega) (by decide) (by omega) (by omega) 0 _ (fun _ => ⟨pkA_size _ _ _ _ _ _ _ _ _ _ _, pkA_one _ _ _ _ _ _ _ _ _ _ _⟩) ?_ A n c w hx hnc hcm
    rw [hl, show 40 + (20 + xs.length) = n by rw [← hn]; simp; omega]
    exact hup
end Pkt
end Go.Proofs.Ytfmmmjaficbchaa
/- The law's made: whether a flow's packet can be made, by contract. No condition. (Written by gen_pktlawmade.py) -/
namespace Go.Proofs.Ytfmmmjaficbchaa
open Go.RowKit Go.ChangeShapes Go.WideShapes Go.ChangeAt Go.Deep
namespace Pkt
def madeP (pr : Int) (sv : Bool) (shi slo : Int) (dv : Bool) (dhi dlo sp dp ttl fl P : Int) : Prop :=
  pr = P ∧ sv = dv ∧ 0 ≤ ttl ∧ ttl ≤ 255 ∧ 0 ≤ sp ∧ sp ≤ 65535 ∧ 0 ≤ dp ∧ dp ≤ 65535 ∧ 0 ≤ fl ∧ fl ≤ 255 ∧ (sv = true ∨ (shi = 0 ∧ dhi = 0 ∧ slo < 4294967296 ∧ dlo < 4294967296))
instance (pr : Int) (sv : Bool) (shi slo : Int) (dv : Bool) (dhi dlo sp dp ttl fl P : Int) : Decidable (madeP pr sv shi slo dv dhi dlo sp dp ttl fl P) := by unfold madeP; infer_instance
end Pkt
end Go.Proofs.Ytfmmmjaficbchaa
/- Packets as wholes are compared, in a drawn region. No condition. -/
namespace Go.Proofs.Ytfmmmjaficbchaa
open Go.RowKit Go.ChangeShapes Go.WideShapes Go.ChangeAt Go.Deep
section
variable {P : Program} {ops : Array Oper} {w0 : World} {Q : Act → Prop} {a : Act} {op : Oper} {rest : List Oper}
/-- A step that is wanted and has one value in every later world. -/
theorem wpQE_val (v : Value) (hw : Region.wanted op (yielded ops a.tmps) = true) (hv : ∀ l : Later w0, (execOp a.eval op).run P l.w = .ok (.value v) l.w)
    (h : wpQE P ops w0 Q rest (a.put op.dst v)) : wpQE P ops w0 Q (op :: rest) a := wpQE_step fun K hK => by
  rw [if_pos hw]
  refine ⟨v, fun l => ?_, hK _ h⟩
  rw [hv l]
  exact ⟨rfl, lt_refl _⟩
/-- A whole struct is read. -/
theorem run_ldw (w : World) (ev : Operand → Value) (ty : TypeId) (x : Operand) (ho : op.op = .load ty x) (g : Nat) (hx : ev x = .pointer (some ⟨g, 0, none⟩)) (cs : Array Value) {t : TypeId} (d : TypeDesc)
    (hS : w.heap[g]? = some (.cells cs t (0, 0))) (hu : P.underlying ty = some d) (hd : d.isRow = true) (hi : (P.info? ty).map (·.size) = some cs.size) : (execOp ev op).run P w = .ok (.value (.agg cs)) w := by
  have h1 := run_loadVar_mid (P := P) w g 0 ty cs.toList d (blk_range hS) hu hd (by rw [hi, Array.length_toList])
  unfold execOp
  simp only [ho, hx, Instr.loadAt, Instr.sureAddr, Sem.run_bind, Sem.run_pure, Result.andThen_ok, h1]
/-- A part of a block that is a struct is read. -/
theorem run_ldp (w : World) (ev : Operand → Value) (ty : TypeId) (x : Operand) (ho : op.op = .load ty x) (g o : Nat) (hx : ev x = .pointer (some ⟨g, o, none⟩)) (cs : List Value) (d : TypeDesc)
    (hS : w.rangeAt g o cs) (hu : P.underlying ty = some d) (hd : d.isRow = true) (hi : (P.info? ty).map (·.size) = some cs.length) : (execOp ev op).run P w = .ok (.value (.agg cs.toArray)) w := by
  have h1 := run_loadVar_mid (P := P) w g o ty cs d hS hu hd hi
  unfold execOp
  simp only [ho, hx, Instr.loadAt, Instr.sureAddr, Sem.run_bind, Sem.run_pure, Result.andThen_ok, h1]
end
namespace Pkt
def pkG (v6 : Bool) (pr : Int) (sv : Bool) (shi slo : Int) (dv : Bool) (dhi dlo sp dp ttl fl : Int) (er : Bool) (apr : Int) (asv : Bool) (ashi aslo : Int) (adv : Bool) (adhi adlo asp adp sz : Int) : Array Value := #[.bool v6, .int .i64 pr, .bool sv, .int .u64 shi, .int .u64 slo, .bool dv, .int .u64 dhi, .int .u64 dlo, .int .i64 sp, .int .i64 dp, .int .i64 ttl, .int .i64 fl, .bool er, .int .i64 apr, .bool asv, .int .u64 ashi, .int .u64 aslo, .bool adv, .int .u64 adhi, .int .u64 adlo, .int .i64 asp, .int .i64 adp, .int .i64 sz]
set_option maxRecDepth 20000 in
set_option maxHeartbeats 4000000 in
theorem neq_pk {op : Oper} (v6 : Bool) (pr : Int) (sv : Bool) (shi slo : Int) (dv : Bool) (dhi dlo sp dp ttl fl : Int) (er : Bool) (apr : Int) (asv : Bool) (ashi aslo : Int) (adv : Bool) (adhi adlo asp adp sz : Int)
    (ev : Operand → Value) (x y : Operand) (ho : op.op = .binOp .neq 34 x y 34) (hx : ev x = .agg (pkG v6 pr sv shi slo dv dhi dlo sp dp ttl fl er apr asv ashi aslo adv adhi adlo asp adp sz)) (hy : ev y = .agg (pkG v6 pr sv shi slo dv dhi dlo sp dp ttl fl er apr asv ashi aslo adv adhi adlo asp adp sz)) (w : World) :
    (execOp ev op).run Try.prog w = .ok (.value (.bool false)) w := by
  unfold execOp
  simp only [ho, hx, hy]
  clear hx hy ho
  unfold pkG
  simp [go_sem]
set_option maxRecDepth 20000 in
set_option maxHeartbeats 4000000 in
theorem eql_pk {op : Oper} (v6 : Bool) (pr : Int) (sv : Bool) (shi slo : Int) (dv : Bool) (dhi dlo sp dp ttl fl : Int) (er : Bool) (apr : Int) (asv : Bool) (ashi aslo : Int) (adv : Bool) (adhi adlo asp adp sz : Int)
    (ev : Operand → Value) (x y : Operand) (ho : op.op = .binOp .eql 34 x y 34) (hx : ev x = .agg (pkG v6 pr sv shi slo dv dhi dlo sp dp ttl fl er apr asv ashi aslo adv adhi adlo asp adp sz)) (hy : ev y = .agg (pkG v6 pr sv shi slo dv dhi dlo sp dp ttl fl er apr asv ashi aslo adv adhi adlo asp adp sz)) (w : World) :
    (execOp ev op).run Try.prog w = .ok (.value (.bool true)) w := by
  unfold execOp
  simp only [ho, hx, hy]
  clear hx hy ho
  unfold pkG
  simp [go_sem]
end Pkt
end Go.Proofs.Ytfmmmjaficbchaa
/- Law 13's outer, by contract: a packet without what is behind its header, that, and what goes ahead of it; or why none. Conditions: what four.Parse (six.Parse) makes of the bytes. (Written by gen_pktouter.py) -/
namespace Go.Proofs.Ytfmmmjaficbchaa
open Go.RowKit Go.ChangeShapes Go.WideShapes Go.ChangeAt Go.Deep
section
variable {P : Program} {md : Region.Mode} {Q : Exit → Act → World → Prop} {R : World → World → Prop}
/-- A struct is stored, as the one step that may come up. -/
theorem wpF_st (i : Nat) {L : List Oper} {op : Oper} {rest : List Oper} {fuel : Nat} {listed : Array Bool} {a : Act} {w : World} (hd : L.drop i = op :: rest) (hrd : Region.ready md L.toArray listed = [i]) (hgd : op.guard = none)
    (ty : TypeId) (x y : Operand) (ho : op.op = .store ty x y) (g o : Nat) (hx : a.eval x = .pointer (some ⟨g, o, none⟩)) (vs : Array Value) (hy : a.eval y = .agg vs) {cs : Array Value} {t : TypeId} (hc : w.heap[g]? = some (.cells cs t (0, 0))) (hn : o + vs.size ≤ cs.size)
    (hi : (P.info? ty).map (·.size) = some vs.size) (h1 : vs.all (·.oneCell') = true)
    (h : ∀ w', w'.heap[g]? = some (.cells (putA cs o vs.toList) t (0, 0)) → w.grownBy w' (some g) → R w w' ∧ wpF P md L.toArray Q R fuel (listed.setIfInBounds i true) (a.put op.dst undef) w') : wpF P md L.toArray Q R (fuel + 1) listed a w := by
  obtain ⟨w', e, h2, h3⟩ := stored_at (o := o) hc vs.toList (by simpa using hn)
  refine wpF_step i hd hrd fun K hK => ?_
  rw [if_pos (by unfold Region.wanted; rw [hgd])]
  refine wp_store_mid ty x y ho g o vs hx hy (blk_there hc hn) hi h1 ?_
  rw [e]
  exact hK _ _ (h w' h2 h3).1 (h w' h2 h3).2
end
namespace Pkt
def OuterEnd (K : Nat) (cs : Array Value) (rest ps : List UInt8) (w w' : World) (e : Ending) : Prop :=
  ∃ z r p, e = .returned (.tuple #[.agg z, r, p, .int .i64 (K : Int)]) ∧ z.size = 23 ∧ z.all (·.oneCell') = true ∧ (K = 0 → z = cs ∧ ∃ A c P d, r = .slice A rest.length c ∧ p = .slice P ps.length d ∧ IsB w' w'.heap.size A rest.length rest ∧ IsB w' w'.heap.size P ps.length ps ∧ rest.length ≤ c ∧ c ≤ maxLen) ∧ Below w.heap.size w w'
theorem pkG_one (v6 : Bool) (pr : Int) (sv : Bool) (shi slo : Int) (dv : Bool) (dhi dlo sp dp ttl fl : Int) (er : Bool) (apr : Int) (asv : Bool) (ashi aslo : Int) (adv : Bool) (adhi adlo asp adp sz : Int) : (pkG v6 pr sv shi slo dv dhi dlo sp dp ttl fl er apr asv ashi aslo adv adhi adlo asp adp sz).all (·.oneCell') = true := all_oneCell_toArray (by
  intro v hv
  simp only [List.mem_cons, List.not_mem_nil, or_false] at hv
  rcases hv with rfl | rfl | rfl | rfl | rfl | rfl | rfl | rfl | rfl | rfl | rfl | rfl | rfl | rfl | rfl | rfl | rfl | rfl | rfl | rfl | rfl | rfl | rfl <;> rfl)
/-- Bytes do not lie in a block that holds none: what is written there is not theirs. -/
theorem _root_.Go.Proofs.Ytfmmmjaficbchaa.IsB.past {w w' : World} {B n g : Nat} {A : Option Addr} {xs : List UInt8} {cs : Array Value} {t : TypeId} (h : IsB w B A n xs) (hc : w.heap[g]? = some (.cells cs t (0, 0))) (hno : ∀ (o : Nat) (v : Value), cs[o]? = some v → ∀ x, v ≠ u8v x) (hg : w.grownBy w' (some g)) : IsB w' B A n xs := by
  refine ⟨h.1, fun hn => ?_⟩
  obtain ⟨b, off, rfl, hb, hcell⟩ := h.2 hn
  refine ⟨b, off, rfl, hb, fun i hi => ?_⟩
  have hne : b ≠ g := fun e => by
    subst e
    have h1 := hcell i hi
    rw [blk_cell hc] at h1
    exact hno _ _ h1 _ rfl
  rw [← hcell i hi]
  have hbl : b < w.heap.size := by
    by_cases hlt : b < w.heap.size
    · exact hlt
    · have h1 := hcell i hi
      unfold World.cell? at h1
      simp [Array.getElem?_eq_none (by omega : w.heap.size ≤ b)] at h1
  have hk := hg.block b hbl (fun e => hne (Option.some.inj e))
  unfold World.cell?
  rw [hk]
theorem pkZ_no8 : ∀ (o : Nat) (v : Value), pkZ[o]? = some v → ∀ x, v ≠ u8v x := by
  intro o v h x
  have hm : v ∈ pkZ.toList := by
    have := Array.mem_of_getElem? h
    exact Array.mem_toList_iff.2 this
  unfold pkZ at hm
  simp only [List.mem_cons, List.not_mem_nil, or_false] at hm
  rcases hm with rfl | rfl | rfl | rfl | rfl | rfl | rfl | rfl | rfl | rfl | rfl | rfl | rfl | rfl | rfl | rfl | rfl | rfl | rfl | rfl | rfl | rfl | rfl <;> exact fun e => by cases e
end Pkt
end Go.Proofs.Ytfmmmjaficbchaa
/- Law 13's outer, by contract, in version 6. Conditions: what six.Parse makes of the bytes. (Written by gen_pktouter.py) -/
namespace Go.Proofs.Ytfmmmjaficbchaa
open Go.RowKit Go.ChangeShapes Go.WideShapes Go.ChangeAt Go.Deep
namespace Pkt
def p6O (sv : Bool) (proto sh sl dh dl ho sz : Nat) : Array Value := #[.bool true, .int .i64 (proto : Int), .bool sv, .int .u64 (sh : Int), .int .u64 (sl : Int), .bool sv, .int .u64 (dh : Int), .int .u64 (dl : Int), .int .i64 0, .int .i64 0, .int .i64 (ho : Int), .int .i64 0, .bool false, .int .i64 0, .bool false, .int .u64 0, .int .u64 0, .bool false, .int .u64 0, .int .u64 0, .int .i64 0, .int .i64 0, .int .i64 (sz : Int)]
theorem p6O_one (sv : Bool) (proto sh sl dh dl ho sz : Nat) : (p6O sv proto sh sl dh dl ho sz).all (·.oneCell') = true := pkG_one true proto sv sh sl sv dh dl 0 0 ho 0 false 0 false 0 0 false 0 0 0 0 sz
end Pkt
end Go.Proofs.Ytfmmmjaficbchaa
/- Law 13's parse, by contract, for each kind of packet. Conditions: what outer makes of the bytes. (Written by gen_pktlaw.py) -/
namespace Go.Proofs.Ytfmmmjaficbchaa
open Go.RowKit Go.ChangeShapes Go.WideShapes Go.ChangeAt Go.Deep
namespace Pkt
end Pkt
end Go.Proofs.Ytfmmmjaficbchaa
/- Law 13's parse, by contract, for a message of an error. Conditions: what outer makes of the bytes. (Written by gen_pktlaw.py) -/
namespace Go.Proofs.Ytfmmmjaficbchaa
open Go.RowKit Go.ChangeShapes Go.WideShapes Go.ChangeAt Go.Deep
namespace Pkt
end Pkt
end Go.Proofs.Ytfmmmjaficbchaa
/- What pkt.Parse and law 13's parse make of bytes is the same. Conditions: a slice of bytes that reads as a list, at most 9000 bytes. -/
namespace Go.Proofs.Ytfmmmjaficbchaa
open Go.RowKit Go.ChangeShapes Go.WideShapes Go.ChangeAt Go.Deep
namespace Pkt
/-- A packet's cells, whatever they are. -/
def IsG (y : Array Value) : Prop := ∃ (v6 : Bool) (pr : Int) (sv : Bool) (shi slo : Int) (dv : Bool) (dhi dlo sp dp ttl : Int) (fl : Nat) (er : Bool) (apr : Int) (asv : Bool) (ashi aslo : Int) (adv : Bool) (adhi adlo asp adp sz : Int), fl ≤ 255 ∧ y = pkG v6 pr sv shi slo dv dhi dlo sp dp ttl fl er apr asv ashi aslo adv adhi adlo asp adp sz
/-- What comes of a packet without what is behind its header. -/
def FromA (cs y : Array Value) : Prop := (∃ s d f : Nat, f ≤ 255 ∧ y = tcpA cs s d f) ∨ (∃ s d : Nat, y = udpA cs s d) ∨ ∃ (qr : Int) (sv : Bool) (sh sl : Int) (dv : Bool) (dh dl sp dp : Int), y = errA cs (tuA qr sv sh sl dv dh dl sp dp)
theorem FromA.size {cs y : Array Value} (h : FromA cs y) (hcs : cs.size = 23) : y.size = 23 := by
  rcases h with ⟨s, d, f, _, rfl⟩ | ⟨s, d, rfl⟩ | ⟨qr, sv, sh, sl, dv, dh, dl, sp, dp, rfl⟩
  · unfold tcpA; simp [hcs]
  · unfold udpA; simp [hcs]
  · unfold errA
    rw [putA_size _ _ _ (by rw [Array.size_setIfInBounds, hcs]; exact (show 13 + 9 ≤ 23 by omega)), Array.size_setIfInBounds, hcs]
theorem FromA.one {cs y : Array Value} (h : FromA cs y) (hone : cs.all (·.oneCell') = true) : y.all (·.oneCell') = true := by
  rcases h with ⟨s, d, f, _, rfl⟩ | ⟨s, d, rfl⟩ | ⟨qr, sv, sh, sl, dv, dh, dl, sp, dp, rfl⟩
  · exact one_set (one_set (one_set hone _ rfl) _ rfl) _ rfl
  · exact one_set (one_set hone _ rfl) _ rfl
  · unfold errA
    exact all_put (one_set hone _ rfl) (by simpa using tuA_one qr sv sh sl dv dh dl sp dp)
theorem FromA.four {proto slo dlo ttl sz : Nat} {y : Array Value} (h : FromA (p4A proto slo dlo ttl sz) y) : IsG y := by
  rcases h with ⟨s, d, f, hf, rfl⟩ | ⟨s, d, rfl⟩ | ⟨qr, sv, sh, sl, dv, dh, dl, sp, dp, rfl⟩
  · exact ⟨false, proto, false, 0, slo, false, 0, dlo, s, d, ttl, f, false, 0, false, 0, 0, false, 0, 0, 0, 0, sz, hf, rfl⟩
  · exact ⟨false, proto, false, 0, slo, false, 0, dlo, s, d, ttl, 0, false, 0, false, 0, 0, false, 0, 0, 0, 0, sz, by omega, rfl⟩
  · exact ⟨false, proto, false, 0, slo, false, 0, dlo, 0, 0, ttl, 0, true, qr, sv, sh, sl, dv, dh, dl, sp, dp, sz, by omega, rfl⟩
theorem FromA.six {proto shi slo dhi dlo ttl sz : Nat} {y : Array Value} (h : FromA (p6A proto shi slo dhi dlo ttl sz) y) : IsG y := by
  rcases h with ⟨s, d, f, hf, rfl⟩ | ⟨s, d, rfl⟩ | ⟨qr, sv, sh, sl, dv, dh, dl, sp, dp, rfl⟩
  · exact ⟨true, proto, true, shi, slo, true, dhi, dlo, s, d, ttl, f, false, 0, false, 0, 0, false, 0, 0, 0, 0, sz, hf, rfl⟩
  · exact ⟨true, proto, true, shi, slo, true, dhi, dlo, s, d, ttl, 0, false, 0, false, 0, 0, false, 0, 0, 0, 0, sz, by omega, rfl⟩
  · exact ⟨true, proto, true, shi, slo, true, dhi, dlo, 0, 0, ttl, 0, true, qr, sv, sh, sl, dv, dh, dl, sp, dp, sz, by omega, rfl⟩
theorem parseF_le (K : Nat) (xs : List UInt8) : Tcp.parseF K xs ≤ 255 := by
  unfold Tcp.parseF
  split
  · have := (xs.getD 13 0).toNat_lt
    omega
  · omega
end Pkt
end Go.Proofs.Ytfmmmjaficbchaa
/- What upper makes of bytes, as a function of the packet so far; and of packets with a time to live one less. Conditions: at most 9000 bytes. -/
namespace Go.Proofs.Ytfmmmjaficbchaa
open Go.RowKit Go.ChangeShapes Go.WideShapes Go.ChangeAt Go.Deep
namespace Pkt
/-- What is made of a packet so far. -/
def GoodG (g : Array Value → Array Value) : Prop := (∃ s d f : Nat, f ≤ 255 ∧ g = fun cs => tcpA cs s d f) ∨ (∃ s d : Nat, g = fun cs => udpA cs s d) ∨ ∃ (qr : Int) (sv : Bool) (sh sl : Int) (dv : Bool) (dh dl sp dp : Int), g = fun cs => errA cs (tuA qr sv sh sl dv dh dl sp dp)
theorem GoodG.from {g : Array Value → Array Value} (h : GoodG g) (cs : Array Value) : FromA cs (g cs) := by
  rcases h with ⟨s, d, f, hf, rfl⟩ | ⟨s, d, rfl⟩ | ⟨qr, sv, sh, sl, dv, dh, dl, sp, dp, rfl⟩
  · exact .inl ⟨s, d, f, hf, rfl⟩
  · exact .inr (.inl ⟨s, d, rfl⟩)
  · exact .inr (.inr ⟨qr, sv, sh, sl, dv, dh, dl, sp, dp, rfl⟩)
theorem upper_fn (v6 : Bool) (pr : Int) (xs ps : List UInt8) (hnm : xs.length ≤ 1099511627776) (hm : ps.length ≤ maxLen) :
    ∃ K g, GoodG g ∧ ∀ cs : Array Value, cs.size = 23 → cs.all (·.oneCell') = true → cs[0]? = some (.bool v6) → cs[1]? = some (.int .i64 pr) → UpIs cs (if v6 = true then 58 else 1) xs ps K (g cs) := by
  by_cases h6 : pr = 6
  · exact ⟨_, fun cs => tcpA cs (Tcp.parseS (Tcp.parseK ps xs) xs 0) (Tcp.parseS (Tcp.parseK ps xs) xs 2) (Tcp.parseF (Tcp.parseK ps xs) xs), .inl ⟨_, _, _, parseF_le _ _, rfl⟩,
      fun cs hcs hone h0 h1 A P c d w hx hp hc hcm => upper_tcp cs hcs hone v6 h0 pr h1 _ A P c d xs ps w hx hp hc hcm hnm hm h6 _ rfl _ (fun _ => rfl)⟩
  by_cases h17 : pr = 17
  · exact ⟨_, fun cs => udpA cs (Udp.parseS (Udp.parseK (!v6) ps xs) xs 0) (Udp.parseS (Udp.parseK (!v6) ps xs) xs 2), .inr (.inl ⟨_, _, rfl⟩),
      fun cs hcs hone h0 h1 A P c d w hx hp hc hcm => upper_udp cs hcs hone v6 h0 pr h1 _ A P c d xs ps w hx hp hc hcm hnm hm h17 _ rfl _ (fun _ => rfl)⟩
  by_cases he : pr = (if v6 = true then 58 else 1)
  · have ha : (aheadP v6 ps).length ≤ maxLen := by
      unfold aheadP
      split
      · exact hm
      · simp [maxLen]
    obtain ⟨K1, ty, cd, wd, ds, _, hds, hP⟩ := Icmp.parse_is xs (aheadP v6 ps) hnm ha
    obtain ⟨K2, qr, sv, sh, sl, dv, dh, dl, sp, dp, hQ⟩ := Icmp.quoted_is v6 ty ds (by omega)
    exact ⟨_, fun cs => errA cs (tuA qr dv dh dl sv sh sl dp sp), .inr (.inr ⟨_, _, _, _, _, _, _, _, _, rfl⟩),
      fun cs hcs hone h0 h1 A P c d w hx hp hc hcm => upper_err cs hcs hone v6 h0 pr h1 _ A P c d xs ps w hx hp hc hcm hnm hm h6 h17 he K1 ty cd wd ds hP K2 qr sv sh sl dv dh dl sp dp hQ⟩
  · exact ⟨14, fun cs => udpA cs 0 0, .inr (.inl ⟨0, 0, rfl⟩), fun cs hcs hone h0 h1 A P c d w hx hp hc hcm => upper_none cs hcs hone v6 h0 pr h1 _ A P c d xs ps w hx hp hc hcm hnm hm h6 h17 he _⟩
theorem good_less4 {g : Array Value → Array Value} (h : GoodG g) (proto slo dlo t t' sz : Nat) (ht : (t' : Int) = (t : Int) - 1) :
    (g (p4A proto slo dlo t sz))[10]? = some (.int .i64 (t : Int)) ∧ (g (p4A proto slo dlo t sz)).setIfInBounds 10 (.int .i64 ((t : Int) - 1)) = g (p4A proto slo dlo t' sz) := by
  rw [← ht]
  rcases h with ⟨s, d, f, _, rfl⟩ | ⟨s, d, rfl⟩ | ⟨qr, sv, sh, sl, dv, dh, dl, sp, dp, rfl⟩
  · exact ⟨rfl, rfl⟩
  · exact ⟨rfl, rfl⟩
  · exact ⟨rfl, rfl⟩
theorem good_less6 {g : Array Value → Array Value} (h : GoodG g) (proto sh0 sl0 dh0 dl0 t t' sz : Nat) (ht : (t' : Int) = (t : Int) - 1) :
    (g (p6A proto sh0 sl0 dh0 dl0 t sz))[10]? = some (.int .i64 (t : Int)) ∧ (g (p6A proto sh0 sl0 dh0 dl0 t sz)).setIfInBounds 10 (.int .i64 ((t : Int) - 1)) = g (p6A proto sh0 sl0 dh0 dl0 t' sz) := by
  rw [← ht]
  rcases h with ⟨s, d, f, _, rfl⟩ | ⟨s, d, rfl⟩ | ⟨qr, sv, sh, sl, dv, dh, dl, sp, dp, rfl⟩
  · exact ⟨rfl, rfl⟩
  · exact ⟨rfl, rfl⟩
  · exact ⟨rfl, rfl⟩
/-- What pkt.Parse makes of bytes, wherever they lie. -/
def PIs (n : Nat) (xs : List UInt8) (K : Nat) (y : Array Value) : Prop :=
  ∀ (A : Option Addr) (c : Nat) (w : World), IsB w w.heap.size A n xs → n ≤ c → c ≤ maxLen → Calls Try.prog 12 #[.slice A n c] w fun e w' => End2 K y w w' e
/-- pkt.Parse of a packet of version 4, in its own numbers. -/
theorem four_fn {n : Nat} {xs : List UInt8} (h : Tun.FourOk n xs) (hn : n ≤ 9000) (s al : Nat) (hs : (xs.getD 0 0).toNat % 16 * 4 = s) (hal : beN xs 2 2 = al) (K : Nat) (g : Array Value → Array Value) (hg : GoodG g)
    (hU : ∀ cs : Array Value, cs.size = 23 → cs.all (·.oneCell') = true → cs[0]? = some (.bool false) → cs[1]? = some (.int .i64 ((xs.getD 9 0).toNat : Int)) → UpIs cs 1 ((xs.take al).drop s) (ps4 (beN xs 12 4) (beN xs 16 4) (xs.getD 9 0).toNat (al - s)) K (g cs)) :
    PIs n xs (if beN xs 6 2 % 16384 = 0 then K else 21) (g (p4A (xs.getD 9 0).toNat (beN xs 12 4) (beN xs 16 4) (xs.getD 8 0).toNat al)) := by
  have hF := h.is (by omega) s al hs hal
  have g3 := h.h3
  have g4 := h.h4
  have g6 := h.h6
  have g7 := h.h7
  have gl := h.len
  rw [hs] at g3 g4 g6
  rw [hal] at g6 g7
  have b9 := (xs.getD 9 0).toNat_lt
  have hrl : ((xs.take al).drop s).length = al - s := by rw [List.length_drop, List.length_take]; omega
  by_cases hf : 0 < beN xs 6 2 % 8192 ∨ decide (beN xs 6 2 / 8192 % 2 = 1) = true
  · have hne : ¬ beN xs 6 2 % 16384 = 0 := by
      rcases hf with hf | hf
      · omega
      · rw [decide_eq_true_iff] at hf
        omega
    rw [if_neg hne]
    exact fun A c w hx hc hcm => Parse_four n xs (by omega) hn h.h2 21 _ (fun h => absurd h (by omega)) (fun A c w hx hc hcm => parse4_frag n xs _ _ _ _ _ _ _ _ _ _ _ _ hF hf _ A c w hx hc hcm) A c w hx hc hcm
  · have h1 : beN xs 6 2 % 8192 = 0 := by omega
    have h2 : decide (beN xs 6 2 / 8192 % 2 = 1) = false := by
      cases h3 : decide (beN xs 6 2 / 8192 % 2 = 1) with
      | false => rfl
      | true => exact absurd (.inr h3) hf
    rw [h1, h2] at hF
    rw [decide_eq_false_iff_not] at h2
    rw [if_pos (by omega)]
    have hys : K = 0 → (g (p4A (xs.getD 9 0).toNat (beN xs 12 4) (beN xs 16 4) (xs.getD 8 0).toNat al)).size = 23 ∧ (g (p4A (xs.getD 9 0).toNat (beN xs 12 4) (beN xs 16 4) (xs.getD 8 0).toNat al)).all (·.oneCell') = true :=
      fun _ => ⟨(hg.from _).size rfl, (hg.from _).one (p4A_one _ _ _ _ _)⟩
    have hU1 := hU (p4A (xs.getD 9 0).toNat (beN xs 12 4) (beN xs 16 4) (xs.getD 8 0).toNat al) rfl (p4A_one _ _ _ _ _) rfl rfl
    have e : 20 + (s - 20) + (al - s) = al := by omega
    exact fun A c w hx hc hcm => Parse_four n xs (by omega) hn h.h2 K _ hys (fun A c w hx hc hcm => parse4_ok n xs _ _ _ _ _ _ _ _ _ _ hF (by omega) (by omega) (beN_lt xs 12 4) (beN_lt xs 16 4) hrl K _ (by rw [e]; exact hU1) hys A c w hx hc hcm) A c w hx hc hcm
theorem six_fn {n : Nat} {xs : List UInt8} {acc : List (Int × List UInt8)} {nx : Nat} {rest : List UInt8} (h : Tun.SixOk n xs acc nx rest) (hn : n ≤ 9000) (K : Nat) (g : Array Value → Array Value) (hg : GoodG g)
    (hU : ∀ cs : Array Value, cs.size = 23 → cs.all (·.oneCell') = true → cs[0]? = some (.bool true) → cs[1]? = some (.int .i64 (nx : Int)) → UpIs cs 58 rest (Six.pseudoB (beN xs 8 8) (beN xs 16 8) (beN xs 24 8) (beN xs 32 8) rest.length nx) K (g cs)) :
    PIs n xs (if Six.fragP acc = 0 ∧ Six.moreP acc = false then K else 21) (g (p6A nx (beN xs 8 8) (beN xs 16 8) (beN xs 24 8) (beN xs 32 8) (xs.getD 7 0).toNat (40 + Six.sumP acc + rest.length))) := by
  have hF := h.is (by omega)
  obtain ⟨f1, f2, f3, f4, f5, f6, f7, f8⟩ := h.facts
  by_cases hf : 0 < Six.fragP acc ∨ Six.moreP acc = true
  · have hne : ¬ (Six.fragP acc = 0 ∧ Six.moreP acc = false) := by
      rcases hf with hf | hf
      · omega
      · rw [hf]
        exact fun h => by cases h.2
    rw [if_neg hne]
    exact fun A c w hx hc hcm => Parse_six n xs (by omega) hn f2 21 _ (fun h => absurd h (by omega)) (fun A c w hx hc hcm => parse6_frag n xs _ _ _ _ _ _ _ acc nx _ rest hF f6 hf _ A c w hx hc hcm) A c w hx hc hcm
  · have h1 : Six.fragP acc = 0 := by omega
    have h2 : Six.moreP acc = false := by
      cases h3 : Six.moreP acc with
      | false => rfl
      | true => exact absurd (.inr h3) hf
    rw [if_pos ⟨h1, h2⟩]
    have hys : K = 0 → (g (p6A nx (beN xs 8 8) (beN xs 16 8) (beN xs 24 8) (beN xs 32 8) (xs.getD 7 0).toNat (40 + Six.sumP acc + rest.length))).size = 23 ∧ (g (p6A nx (beN xs 8 8) (beN xs 16 8) (beN xs 24 8) (beN xs 32 8) (xs.getD 7 0).toNat (40 + Six.sumP acc + rest.length))).all (·.oneCell') = true :=
      fun _ => ⟨(hg.from _).size rfl, (hg.from _).one (p6A_one _ _ _ _ _ _ _)⟩
    have hU1 := hU (p6A nx (beN xs 8 8) (beN xs 16 8) (beN xs 24 8) (beN xs 32 8) (xs.getD 7 0).toNat (40 + Six.sumP acc + rest.length)) rfl (p6A_one _ _ _ _ _ _ _) rfl rfl
    exact fun A c w hx hc hcm => Parse_six n xs (by omega) hn f2 K _ hys (fun A c w hx hc hcm => parse6_ok n xs _ _ _ _ _ _ _ acc nx _ rest hF f6 f7 h1 h2 (by omega) f5 (beN_lt xs 8 8) (beN_lt xs 16 8) (beN_lt xs 24 8) (beN_lt xs 32 8) rfl _ rfl K _ hU1 hys A c w hx hc hcm) A c w hx hc hcm
theorem less4_parse {n : Nat} {xs : List UInt8} (h : Tun.FourOk n xs) (hn : n ≤ 9000) (al : Nat) (hal : beN xs 2 2 = al) (h2 : 2 ≤ (xs.getD 8 0).toNat) :
    ∃ Kp y1 y2, PIs n xs Kp y1 ∧ PIs al (Tun.lessB4 xs al) Kp y2 ∧ (Kp = 0 → y1[10]? = some (.int .i64 ((xs.getD 8 0).toNat : Int)) ∧ y1.setIfInBounds 10 (.int .i64 (((xs.getD 8 0).toNat : Int) - 1)) = y2 ∧ IsG y1 ∧ IsG y2) := by
  obtain ⟨s, hs⟩ : ∃ s, (xs.getD 0 0).toNat % 16 * 4 = s := ⟨_, rfl⟩
  obtain ⟨ho, hl, h8, hsame, hrest⟩ := Tun.lessB4_ok h s al hs hal h2
  have g3 := h.h3
  have g4 := h.h4
  have g6 := h.h6
  have g7 := h.h7
  have gl := h.len
  rw [hs] at g3 g4 g6
  rw [hal] at g6 g7
  have hrl : ((xs.take al).drop s).length = al - s := by rw [List.length_drop, List.length_take]; omega
  obtain ⟨K, g, hg, hU⟩ := upper_fn false ((xs.getD 9 0).toNat : Int) ((xs.take al).drop s) (ps4 (beN xs 12 4) (beN xs 16 4) (xs.getD 9 0).toNat (al - s)) (by omega) (by unfold ps4 maxLen; simp [beB_length])
  have same : ∀ i, i < 20 → i ≠ 8 → i ≠ 10 → i ≠ 11 → (Tun.lessB4 xs al).getD i 0 = xs.getD i 0 := fun i h1 h2 h3 h4 => getD_of_get (hsame i (by omega) h2 h3 h4)
  have e0 := same 0 (by omega) (by omega) (by omega) (by omega)
  have e9 := same 9 (by omega) (by omega) (by omega) (by omega)
  have e2 : beN (Tun.lessB4 xs al) 2 2 = al := (beN_congr _ _ _ _ fun i _ hi => same i (by omega) (by omega) (by omega) (by omega)).trans hal
  have e6 : beN (Tun.lessB4 xs al) 6 2 = beN xs 6 2 := beN_congr _ _ _ _ fun i _ hi => same i (by omega) (by omega) (by omega) (by omega)
  have e12 : beN (Tun.lessB4 xs al) 12 4 = beN xs 12 4 := beN_congr _ _ _ _ fun i _ hi => same i (by omega) (by omega) (by omega) (by omega)
  have e16 : beN (Tun.lessB4 xs al) 16 4 = beN xs 16 4 := beN_congr _ _ _ _ fun i _ hi => same i (by omega) (by omega) (by omega) (by omega)
  have p1 := four_fn h hn s al hs hal K g hg hU
  have p2 := four_fn ho (by omega) s al (by rw [e0]; exact hs) e2 K g hg (by rw [e9, e12, e16, hrest]; exact hU)
  rw [e6, e9, e12, e16, h8] at p2
  obtain ⟨q1, q2⟩ := good_less4 hg (xs.getD 9 0).toNat (beN xs 12 4) (beN xs 16 4) (xs.getD 8 0).toNat ((xs.getD 8 0).toNat - 1) al (by omega)
  exact ⟨_, _, _, p1, p2, fun _ => ⟨q1, q2, (hg.from _).four, (hg.from _).four⟩⟩
theorem less6_parse {n : Nat} {xs : List UInt8} {acc : List (Int × List UInt8)} {nx : Nat} {rest : List UInt8} (h : Tun.SixOk n xs acc nx rest) (hn : n ≤ 9000) (T : Nat) (hT : 40 + Six.sumP acc + rest.length = T) (h2 : 2 ≤ (xs.getD 7 0).toNat) :
    ∃ Kp y1 y2, PIs n xs Kp y1 ∧ PIs T (Tun.lessB6 xs T) Kp y2 ∧ (Kp = 0 → y1[10]? = some (.int .i64 ((xs.getD 7 0).toNat : Int)) ∧ y1.setIfInBounds 10 (.int .i64 (((xs.getD 7 0).toNat : Int) - 1)) = y2 ∧ IsG y1 ∧ IsG y2) := by
  obtain ⟨ho, hl, h7, hsame⟩ := Tun.lessB6_ok h T hT
  obtain ⟨f1, f2, f3, f4, f5, f6, f7, f8⟩ := h.facts
  obtain ⟨K, g, hg, hU⟩ := upper_fn true (nx : Int) rest (Six.pseudoB (beN xs 8 8) (beN xs 16 8) (beN xs 24 8) (beN xs 32 8) rest.length nx) (by omega) (by unfold Six.pseudoB maxLen; simp [beB_length, allB])
  have same : ∀ i, i < 40 → i ≠ 7 → (Tun.lessB6 xs T).getD i 0 = xs.getD i 0 := fun i h1 h2 => getD_of_get (hsame i (by omega) h2)
  have e8 : beN (Tun.lessB6 xs T) 8 8 = beN xs 8 8 := beN_congr _ _ _ _ fun i _ hi => same i (by omega) (by omega)
  have e16 : beN (Tun.lessB6 xs T) 16 8 = beN xs 16 8 := beN_congr _ _ _ _ fun i _ hi => same i (by omega) (by omega)
  have e24 : beN (Tun.lessB6 xs T) 24 8 = beN xs 24 8 := beN_congr _ _ _ _ fun i _ hi => same i (by omega) (by omega)
  have e32 : beN (Tun.lessB6 xs T) 32 8 = beN xs 32 8 := beN_congr _ _ _ _ fun i _ hi => same i (by omega) (by omega)
  have p1 := six_fn h hn K g hg hU
  have p2 := six_fn ho (by omega) K g hg (by rw [e8, e16, e24, e32]; exact hU)
  rw [e8, e16, e24, e32, h7] at p2
  obtain ⟨q1, q2⟩ := good_less6 hg nx (beN xs 8 8) (beN xs 16 8) (beN xs 24 8) (beN xs 32 8) (xs.getD 7 0).toNat ((xs.getD 7 0).toNat - 1) (40 + Six.sumP acc + rest.length) (by omega)
  exact ⟨_, _, _, p1, p2, fun _ => ⟨q1, q2, (hg.from _).six, (hg.from _).six⟩⟩
end Pkt
end Go.Proofs.Ytfmmmjaficbchaa
