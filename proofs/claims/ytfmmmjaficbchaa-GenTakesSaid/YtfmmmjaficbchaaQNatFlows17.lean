/- Plain: a packet with another address and port is one again. Conditions: at most 4096 bytes. -/
import Derived.Test.YtfmmmjaficbchaaQNatFlows16
import Derived.Test.YtfmmmjaficbchaaQNatFlows3
import Derived.Test.YtfmmmjaficbchaaQNatFlows4
import Derived.Test.YtfmmmjaficbchaaQNatFlows15
import Derived.Test.YtfmmmjaficbchaaQNatFlows14
namespace Go.Proofs.Ytfmmmjaficbchaa
open Go.RowKit Go.ChangeShapes Go.WideShapes Go.ChangeAt Go.Deep
namespace Nat15
open Pkt (aheadB PIs UpIs GoodG udpA tcpA pkA p4A p6A)
def prN (udp : Bool) : Nat := if udp = true then 17 else 6
/-- What is behind a header is a segment, or a datagram. -/
structure Up (v6 udp : Bool) (ps R : List UInt8) (sp dp fl : Nat) : Prop where
  len : whR udp + 2 ≤ R.length
  K : if udp = true then Udp.parseK (!v6) ps R = 0 else Tcp.parseK ps R = 0
  sp : beN R 0 2 = sp
  dp : beN R 2 2 = dp
  fl : fl = if udp = true then 0 else (R.getD 13 0).toNat
theorem Up.turn {v6 udp : Bool} {ps R : List UInt8} {sp dp fl : Nat} (h : Up v6 udp ps R sp dp fl) (ps' : List UInt8) (he : ps.length % 2 = 0) (he' : ps'.length % 2 = 0) (hpos : Sum.tot false ps' ≠ 0) (fs ts : List Nat) (hft : fs.length = ts.length) (hfs : ∀ x ∈ fs, x ≤ 65535)
    (hP : Sum.tot false ps' + fs.sum = Sum.tot false ps + ts.sum) (s port : Nat) (hs : s ≤ 1) (hp : port ≤ 65535) :
    Up v6 udp ps' (turnR udp R s port fs ts) (if s = 0 then port else sp) (if s = 0 then dp else port) fl := by
  obtain ⟨g1, g2⟩ := turnR_get udp R s port fs ts hs h.len
  obtain ⟨g3, g4⟩ := turnR_port udp R s port fs ts hs h.len hp
  obtain ⟨g5, g6⟩ := turnR_check udp R s port fs ts hs h.len hp (Sum.tot false ps) (Sum.tot false ps') hft hfs hP
  have hlen := h.len
  have hK := h.K
  have hsp := h.sp
  have hdp := h.dp
  have gd : ∀ i, i ≠ 2 * s → i ≠ 2 * s + 1 → i ≠ whR udp → i ≠ whR udp + 1 → (turnR udp R s port fs ts).getD i 0 = R.getD i 0 := fun i a b c d => getD_of_get (g2 i a b c d)
  refine ⟨by rw [g1]; exact hlen, ?_, ?_, ?_, ?_⟩
  · rcases udp with _ | _
    · rw [if_neg (by simp)] at hK ⊢
      unfold Tcp.parseK at hK ⊢
      have w16 : whR false = 16 := rfl
      rw [g1, gd 12 (by omega) (by omega) (by omega) (by omega)]
      split at hK
      · omega
      rename_i h1
      rw [if_neg h1]
      split at hK
      · omega
      rename_i h2
      rw [if_neg h2]
      split at hK
      case isFalse => omega
      rename_i h3
      rw [if_pos]
      rw [tot_even _ _ he] at h3
      rw [tot_even _ _ he']
      have h4 := Sum.ones_full.1 h3
      exact Sum.ones_full.2 ⟨by rw [(g6 (by simp)).2]; exact h4.1, by omega⟩
    · rw [if_pos rfl] at hK ⊢
      unfold Udp.parseK at hK ⊢
      have w6 : whR true = 6 := rfl
      rw [g1, beN_congr (turnR true R s port fs ts) R 4 2 fun i a b => gd i (by omega) (by omega) (by omega) (by omega)]
      split at hK
      · omega
      rename_i h1
      rw [if_neg h1]
      split at hK
      · omega
      rename_i h2
      rw [if_neg h2]
      split at hK
      · rename_i h3
        rw [if_pos (g5 rfl h3)]
        exact hK
      · rename_i h3
        have h5 := g6 (fun hh => h3 hh.2)
        rw [if_neg (h5.1 rfl)]
        split at hK
        case isFalse => omega
        rename_i h4
        rw [if_pos]
        rw [tot_even _ _ he] at h4
        rw [tot_even _ _ he']
        have h6 := Sum.ones_full.1 h4
        exact Sum.ones_full.2 ⟨by rw [h5.2]; exact h6.1, by omega⟩
  · by_cases h0 : s = 0
    · subst h0
      rw [if_pos rfl]
      exact g3
    · obtain rfl : s = 1 := by omega
      rw [if_neg (by omega)]
      exact g4.trans hsp
  · by_cases h0 : s = 0
    · subst h0
      rw [if_pos rfl]
      exact g4.trans hdp
    · obtain rfl : s = 1 := by omega
      rw [if_neg (by omega)]
      exact g3
  · rw [h.fl]
    rcases udp with _ | _
    · have w16 : whR false = 16 := rfl
      rw [if_neg (by simp), if_neg (by simp), gd 13 (by omega) (by omega) (by omega) (by omega)]
    · rfl
def upA (udp : Bool) (sp dp fl : Nat) (cs : Array Value) : Array Value := if udp = true then udpA cs sp dp else tcpA cs sp dp fl
theorem Up.fl_le {v6 udp : Bool} {ps R : List UInt8} {sp dp fl : Nat} (h : Up v6 udp ps R sp dp fl) : fl ≤ 255 := by
  rw [h.fl]
  have := (R.getD 13 0).toNat_lt
  split <;> omega
theorem Up.port_le {v6 udp : Bool} {ps R : List UInt8} {sp dp fl : Nat} (h : Up v6 udp ps R sp dp fl) : sp ≤ 65535 ∧ dp ≤ 65535 := by
  have h1 := beN_lt R 0 2
  have h2 := beN_lt R 2 2
  rw [h.sp] at h1
  rw [h.dp] at h2
  omega
theorem Up.good {v6 udp : Bool} {ps R : List UInt8} {sp dp fl : Nat} (h : Up v6 udp ps R sp dp fl) : GoodG (upA udp sp dp fl) := by
  have hf := h.fl_le
  rcases udp with _ | _
  · exact .inl ⟨sp, dp, fl, hf, rfl⟩
  · exact .inr (.inl ⟨sp, dp, rfl⟩)
theorem Up.is {v6 udp : Bool} {ps R : List UInt8} {sp dp fl : Nat} (h : Up v6 udp ps R sp dp fl) (hR : R.length ≤ 4096) (hp : ps.length ≤ 4096) (cs : Array Value) (hcs : cs.size = 23) (hone : cs.all (·.oneCell') = true) (h0 : cs[0]? = some (.bool v6)) (h1 : cs[1]? = some (.int .i64 (prN udp : Int))) (errs : Int) :
    UpIs cs errs R ps 0 (upA udp sp dp fl cs) := by
  have hK := h.K
  have hf := h.fl
  rcases udp with _ | _
  · exact Pkt.upis_sg cs hcs hone v6 h0 h1 errs R ps hR hp sp dp fl hK h.sp h.dp hf.symm
  · exact Pkt.upis_dg cs hcs hone v6 h0 h1 errs R ps hR hp sp dp hK h.sp h.dp
/-! ### Version 4 -/
theorem beN_setB (xs : List UInt8) (p v : Nat) (k : Nat) (h : p + k ≤ xs.length) (hv : v < 256 ^ k) : beN (setB xs p (beB v k)) p k = v := by
  unfold setB
  exact beN_put v k (xs.take p) _ p (by rw [List.length_take]; omega) hv
/-- A header of version 4 with another address. -/
def turnH4 (H : List UInt8) (s tlo : Nat) : List UInt8 := setB (setB H (12 + 4 * s) (beB tlo 4)) 10 (beB (wordsT (beN H 10 2) (splitN (beN H (12 + 4 * s) 4) 2 ++ [0]) (splitN tlo 2 ++ [0])) 2)
theorem turnH4_get (H : List UInt8) (s tlo : Nat) (hs : s ≤ 1) (hl : 20 ≤ H.length) (ht : tlo < 4294967296) :
    (turnH4 H s tlo).length = H.length ∧ (∀ i, i ≠ 10 → i ≠ 11 → (i < 12 + 4 * s ∨ 12 + 4 * s + 4 ≤ i) → (turnH4 H s tlo)[i]? = H[i]?) ∧ beN (turnH4 H s tlo) (12 + 4 * s) 4 = tlo ∧ Sum.tot false (turnH4 H s tlo) % 65535 = Sum.tot false H % 65535 := by
  have l1 : (setB H (12 + 4 * s) (beB tlo 4)).length = H.length := setB_length _ _ _ (by rw [beB_length]; omega)
  obtain ⟨c, hc⟩ : ∃ c, beN H 10 2 = c := ⟨_, rfl⟩
  obtain ⟨c', hc'⟩ : ∃ c', wordsT c (splitN (beN H (12 + 4 * s) 4) 2 ++ [0]) (splitN tlo 2 ++ [0]) = c' := ⟨_, rfl⟩
  have bc : c < 65536 := hc ▸ beN_lt H 10 2
  have bc' : c' ≤ 65535 := hc' ▸ wordsT_le _ _ c (by omega)
  have c10 : beN (setB H (12 + 4 * s) (beB tlo 4)) 10 2 = c := by rw [← hc]; exact beN_congr _ _ _ _ fun i h1 h2 => setB_getD_out _ _ _ (by rw [beB_length]; omega) i (by rw [beB_length]; omega)
  have hT : turnH4 H s tlo = setB (setB H (12 + 4 * s) (beB tlo 4)) 10 (beB c' 2) := by unfold turnH4; rw [hc, hc']
  rw [hT]
  refine ⟨by rw [setB_length _ _ _ (by rw [beB_length]; omega), l1], fun i h1 h2 h3 => ?_, ?_, ?_⟩
  · rw [setB_get_out _ _ _ (by rw [beB_length]; omega) i (by rw [beB_length]; omega), setB_get_out _ _ _ (by rw [beB_length]; omega) i (by rw [beB_length]; omega)]
  · rw [beN_congr _ (setB H (12 + 4 * s) (beB tlo 4)) _ _ fun i h1 h2 => setB_getD_out _ _ _ (by rw [beB_length]; omega) i (by rw [beB_length]; omega)]
    exact beN_setB _ _ _ 4 (by omega) (by omega)
  · have q1 := tot_setB H (12 + 4 * s) (beB tlo 4) (by omega) (by rw [beB_length]) (by rw [beB_length]; omega)
    have q2 := Sum.tot_setB2 (setB H (12 + 4 * s) (beB tlo 4)) 10 c' rfl (by omega) (by omega)
    rw [c10] at q2
    rw [beB_length, ← beB_beNM H (12 + 4 * s) 4 (by omega)] at q1
    have s1 := tot_split (beN H (12 + 4 * s) 4) [] 2
    have s2 := tot_split tlo [] 2
    rw [List.append_nil] at s1 s2
    rw [show 2 * 2 = 4 from rfl] at s1 s2
    rw [s1, s2] at q1
    have hm := wordsT_mod (splitN (beN H (12 + 4 * s) 4) 2 ++ [0]) (splitN tlo 2 ++ [0]) c (by simp [splitN_length]) (by omega) (by
      intro x hx
      rcases List.mem_append.1 hx with h | h
      · exact splitN_le _ _ x h
      · rw [List.mem_singleton.1 h]; omega)
    rw [hc', List.sum_append, List.sum_append, List.sum_singleton] at hm
    simp only [Sum.tot] at q1
    omega
/-- A packet of version 4 that can be turned. -/
structure Turn4 (n : Nat) (xs : List UInt8) (al e : Nat) (udp : Bool) (R : List UInt8) (slo dlo sp dp ttl fl : Nat) : Prop where
  ok : Tun.FourOk n xs
  he : (xs.getD 0 0).toNat % 16 * 4 = e
  hal : beN xs 2 2 = al
  fr : beN xs 6 2 % 16384 = 0
  pr : (xs.getD 9 0).toNat = prN udp
  hR : (xs.take al).drop e = R
  sl : beN xs 12 4 = slo
  dl : beN xs 16 4 = dlo
  tl : (xs.getD 8 0).toNat = ttl
  up : Up false udp (aheadB false 0 slo 0 dlo (prN udp) (al - e)) R sp dp fl
theorem Turn4.sizes {n : Nat} {xs : List UInt8} {al e : Nat} {udp : Bool} {R : List UInt8} {slo dlo sp dp ttl fl : Nat} (h : Turn4 n xs al e udp R slo dlo sp dp ttl fl) : 20 ≤ e ∧ e ≤ 60 ∧ e ≤ al ∧ al ≤ n ∧ R.length = al - e ∧ xs.length = n ∧ slo < 4294967296 ∧ dlo < 4294967296 ∧ ttl ≤ 255 := by
  have g3 := h.ok.h3
  have g6 := h.ok.h6
  have g7 := h.ok.h7
  have gl := h.ok.len
  have he := h.he
  have b1 := beN_lt xs 12 4
  have b2 := beN_lt xs 16 4
  have b3 := (xs.getD 8 0).toNat_lt
  rw [h.sl] at b1
  rw [h.dl] at b2
  rw [h.tl] at b3
  rw [he] at g3 g6
  rw [h.hal] at g6 g7
  refine ⟨g3, by omega, g6, g7, ?_, gl, by omega, by omega, by omega⟩
  rw [← h.hR, List.length_drop, List.length_take]
  omega
theorem Turn4.pis {n : Nat} {xs : List UInt8} {al e : Nat} {udp : Bool} {R : List UInt8} {slo dlo sp dp ttl fl : Nat} (h : Turn4 n xs al e udp R slo dlo sp dp ttl fl) (hn : n ≤ 4000) : PIs n xs 0 (pkA false (prN udp) 0 slo 0 dlo sp dp ttl fl al) := by
  obtain ⟨s1, s2, s3, s4, s5, s6, s7, s8, s9⟩ := h.sizes
  have hps : (aheadB false 0 slo 0 dlo (prN udp) (al - e)).length = 12 := by unfold aheadB; rw [if_neg (by simp)]; simp [beB_length]
  have := Pkt.four_fn h.ok (by omega) e al h.he h.hal 0 (upA udp sp dp fl) h.up.good (fun cs h1 h2 h3 h4 => by
    rw [h.hR, h.sl, h.dl, h.pr]
    rw [h.pr] at h4
    exact h.up.is (by omega) (by omega) cs h1 h2 h3 h4 1)
  rw [if_pos h.fr, h.pr, h.sl, h.dl, h.tl] at this
  rcases udp with _ | _
  · exact this
  · have hfl : fl = 0 := h.up.fl
    subst hfl
    exact this
/-- .. and what comes of it. -/
def natB4 (xs : List UInt8) (al e : Nat) (udp : Bool) (R : List UInt8) (s tlo port was : Nat) : List UInt8 := turnH4 (xs.take e) s tlo ++ turnR udp R s port (splitN was 2) (splitN tlo 2)
theorem Turn4.turn {n : Nat} {xs : List UInt8} {al e : Nat} {udp : Bool} {R : List UInt8} {slo dlo sp dp ttl fl : Nat} (h : Turn4 n xs al e udp R slo dlo sp dp ttl fl) (s tlo port : Nat) (hs : s ≤ 1) (ht : tlo < 4294967296) (hp : port ≤ 65535) :
    Turn4 al (natB4 xs al e udp R s tlo port (if s = 0 then slo else dlo)) al e udp (turnR udp R s port (splitN (if s = 0 then slo else dlo) 2) (splitN tlo 2)) (if s = 0 then tlo else slo) (if s = 0 then dlo else tlo) (if s = 0 then port else sp) (if s = 0 then dp else port) ttl fl := by
  obtain ⟨s1, s2, s3, s4, s5, s6, s7, s8, s9⟩ := h.sizes
  obtain ⟨was, hw⟩ : ∃ was, (if s = 0 then slo else dlo) = was := ⟨_, rfl⟩
  rw [hw]
  have hHl : (xs.take e).length = e := by rw [List.length_take]; omega
  obtain ⟨g1, g2, g3, g4⟩ := turnH4_get (xs.take e) s tlo hs (by omega) ht
  have hRl := (turnR_get udp R s port (splitN was 2) (splitN tlo 2) hs h.up.len).1
  obtain ⟨ys, hys⟩ : ∃ ys, natB4 xs al e udp R s tlo port was = ys := ⟨_, rfl⟩
  have hys2 : turnH4 (xs.take e) s tlo ++ turnR udp R s port (splitN was 2) (splitN tlo 2) = ys := hys
  have yl : ys.length = al := by rw [← hys2, List.length_append, g1, hHl, hRl, s5]; omega
  have yt : ys.take e = turnH4 (xs.take e) s tlo := by rw [← hys2, List.take_append_of_le_length (by omega), List.take_of_length_le (by omega)]
  have yd : ys.drop e = turnR udp R s port (splitN was 2) (splitN tlo 2) := by rw [← hys2, List.drop_append, List.drop_of_length_le (by omega), List.nil_append, g1, hHl, Nat.sub_self, List.drop_zero]
  have yg : ∀ i, i < e → ys[i]? = (turnH4 (xs.take e) s tlo)[i]? := fun i hi => by rw [← yt, List.getElem?_take_of_lt hi]
  have same : ∀ i, i < e → i ≠ 10 → i ≠ 11 → (i < 12 + 4 * s ∨ 12 + 4 * s + 4 ≤ i) → ys.getD i 0 = xs.getD i 0 := fun i hi a b c => by
    rw [getD_of_get (yg i hi), getD_of_get (g2 i a b c), Six.getD_take xs e i hi]
  have hat : beN ys (12 + 4 * s) 4 = tlo := by
    rw [← g3]
    exact beN_congr _ _ _ _ fun i a b => getD_of_get (yg i (by omega))
  have hok : Tun.FourOk al ys := h.ok.of_same e al h.he h.hal yl (fun i hi => same i (by omega) (by omega) (by omega) (by omega)) (by rw [yt, g4])
  rw [hys]
  have hwas : beN (xs.take e) (12 + 4 * s) 4 = was := by
    rw [Six.beN_take xs e _ 4 (by omega), ← hw]
    by_cases h0 : s = 0
    · subst h0
      rw [if_pos rfl]
      exact h.sl
    · obtain rfl : s = 1 := by omega
      rw [if_neg (by omega)]
      exact h.dl
  refine ⟨hok, by rw [same 0 (by omega) (by omega) (by omega) (by omega)]; exact h.he, ?_, ?_, by rw [same 9 (by omega) (by omega) (by omega) (by omega)]; exact h.pr, by rw [List.take_of_length_le (by omega)]; exact yd, ?_, ?_, by rw [same 8 (by omega) (by omega) (by omega) (by omega)]; exact h.tl, ?_⟩
  · rw [← h.hal]; exact beN_congr _ _ _ _ fun i a b => same i (by omega) (by omega) (by omega) (by omega)
  · have e6 : beN ys 6 2 = beN xs 6 2 := beN_congr _ _ _ _ fun i a b => same i (by omega) (by omega) (by omega) (by omega)
    rw [e6]
    exact h.fr
  · by_cases h0 : s = 0
    · subst h0
      rw [if_pos rfl]
      exact hat
    · obtain rfl : s = 1 := by omega
      rw [if_neg (by omega), ← h.sl]
      exact beN_congr _ _ _ _ fun i a b => same i (by omega) (by omega) (by omega) (by omega)
  · by_cases h0 : s = 0
    · subst h0
      rw [if_pos rfl, ← h.dl]
      exact beN_congr _ _ _ _ fun i a b => same i (by omega) (by omega) (by omega) (by omega)
    · obtain rfl : s = 1 := by omega
      rw [if_neg (by omega)]
      exact hat
  · have el : ∀ a b : Nat, (aheadB false 0 a 0 b (prN udp) (al - e)).length % 2 = 0 := fun a b => by unfold aheadB; rw [if_neg (by simp)]; simp [beB_length]
    obtain ⟨C, hC, hA⟩ := tot_ahead false (prN udp) (al - e)
    have hprn : 6 ≤ prN udp % 256 := by rcases udp with _ | _ <;> decide
    refine h.up.turn _ (el _ _) (el _ _) (by rw [hA]; omega) (splitN was 2) (splitN tlo 2) (by rw [splitN_length, splitN_length]) (splitN_le _ _) ?_ s port hs hp
    rw [hA, hA]
    have aW : ∀ hi lo, addrW false hi lo = splitN lo 2 := fun _ _ => rfl
    simp only [aW]
    rw [← hw]
    by_cases h0 : s = 0
    · simp only [if_pos h0]; omega
    · simp only [if_neg h0]; omega
/-! ### Version 6 -/
theorem SixOk_rest {n : Nat} {xs ys : List UInt8} {acc : List (Int × List UInt8)} {nx : Nat} {rest rest' : List UInt8} (h : Tun.SixOk n xs acc nx rest) (e : Nat) (he : 40 + Six.sumP acc = e) (hl : ys.length = e + rest.length) (hr : rest'.length = rest.length)
    (h0 : ∀ i, i < 7 → ys.getD i 0 = xs.getD i 0) (hx : (ys.take e).drop 40 = (xs.take e).drop 40) (hd : ys.drop e = rest') : Tun.SixOk (e + rest.length) ys acc nx rest' := by
  obtain ⟨f1, f2, f3, f4, f5, f6, f7, f8⟩ := h.facts
  have hxl := h.len
  have e0 := h0 0 (by omega)
  have e6 := h0 6 (by omega)
  have e4 : beN ys 4 2 = beN xs 4 2 := beN_congr _ _ _ _ fun i _ hi => h0 i (by omega)
  have hR2 := h.hR
  unfold Six.parseR at hR2
  have h6 : (xs.getD 6 0).toNat ≤ 255 := by have := (xs.getD 6 0).toNat_lt; omega
  obtain ⟨new, g1, g2, g3, g4, g5, g6, g7⟩ := Six.chainF_sound 9 _ _ [] acc nx rest hR2 rfl rfl (by simp) h6
  rw [List.nil_append] at g1
  subst g1
  have hB : (xs.take e).drop 40 = Six.extB acc (nx : Int) := by
    have := congrArg (List.take (Six.sumP acc)) g3
    rw [List.take_append_of_le_length (by rw [Six.extB_length]; omega), List.take_of_length_le (l := Six.extB acc (nx : Int)) (by rw [Six.extB_length]; omega)] at this
    rw [← this, List.drop_take, List.drop_take, List.take_take]
    congr 1
    omega
  have hy : (ys.take (40 + beN xs 4 2)).drop 40 = Six.extB acc (nx : Int) ++ rest' := by
    rw [List.take_of_length_le (by omega), ← hB, ← hx, ← hd]
    conv => lhs; rw [← List.take_append_drop e ys]
    rw [List.drop_append_of_le_length (by rw [List.length_take]; omega)]
  have hR : Six.parseR ys = some (acc, nx, rest') := by
    unfold Six.parseR
    rw [e6, e4, hy]
    have := Six.chainF_back (nx : Int) rest' (by omega) (by omega) f8 acc [] 9 (by simpa using g4) (by simpa using g7) (.inl rfl) (by omega) rfl
    rw [g2, Int.toNat_natCast, Int.toNat_natCast, List.nil_append] at this
    exact this
  refine ⟨hl, ?_, hR⟩
  unfold Six.parseR at hR
  unfold Six.parseK
  rw [if_neg (by omega), if_neg (by rw [e0]; omega), if_neg (by rw [e4]; omega), hR]
  rfl
/-- A packet of version 6 that can be turned. -/
structure Turn6 (n : Nat) (xs : List UInt8) (acc : List (Int × List UInt8)) (e : Nat) (udp : Bool) (R : List UInt8) (shi slo dhi dlo sp dp ttl fl : Nat) : Prop where
  ok : Tun.SixOk n xs acc (prN udp) R
  he : 40 + Six.sumP acc = e
  fr : Six.fragP acc = 0
  mo : Six.moreP acc = false
  sh : beN xs 8 8 = shi
  sl : beN xs 16 8 = slo
  dh : beN xs 24 8 = dhi
  dl : beN xs 32 8 = dlo
  tl : (xs.getD 7 0).toNat = ttl
  up : Up true udp (aheadB true shi slo dhi dlo (prN udp) R.length) R sp dp fl
theorem Turn6.sizes {n : Nat} {xs : List UInt8} {acc : List (Int × List UInt8)} {e : Nat} {udp : Bool} {R : List UInt8} {shi slo dhi dlo sp dp ttl fl : Nat} (h : Turn6 n xs acc e udp R shi slo dhi dlo sp dp ttl fl) : 40 ≤ e ∧ e + R.length ≤ n ∧ e + R.length = 40 + beN xs 4 2 ∧ xs.length = n ∧ shi < 18446744073709551616 ∧ slo < 18446744073709551616 ∧ dhi < 18446744073709551616 ∧ dlo < 18446744073709551616 ∧ ttl ≤ 255 := by
  obtain ⟨f1, f2, f3, f4, f5, f6, f7, f8⟩ := h.ok.facts
  have he := h.he
  have gl := h.ok.len
  have b1 := beN_lt xs 8 8
  have b2 := beN_lt xs 16 8
  have b3 := beN_lt xs 24 8
  have b4 := beN_lt xs 32 8
  have b5 := (xs.getD 7 0).toNat_lt
  rw [h.sh] at b1
  rw [h.sl] at b2
  rw [h.dh] at b3
  rw [h.dl] at b4
  rw [h.tl] at b5
  exact ⟨by omega, by omega, by omega, gl, by omega, by omega, by omega, by omega, by omega⟩
theorem Turn6.rest {n : Nat} {xs : List UInt8} {acc : List (Int × List UInt8)} {e : Nat} {udp : Bool} {R : List UInt8} {shi slo dhi dlo sp dp ttl fl : Nat} (h : Turn6 n xs acc e udp R shi slo dhi dlo sp dp ttl fl) : (xs.take (40 + Six.sumP acc + R.length)).drop (40 + Six.sumP acc) = R := by
  obtain ⟨f1, f2, f3, f4, f5, f6, f7, f8⟩ := h.ok.facts
  have hR2 := h.ok.hR
  unfold Six.parseR at hR2
  have h6 : (xs.getD 6 0).toNat ≤ 255 := by have := (xs.getD 6 0).toNat_lt; omega
  obtain ⟨new, g1, g2, g3, g4, g5, g6, g7⟩ := Six.chainF_sound 9 _ _ [] acc _ R hR2 rfl rfl (by simp) h6
  rw [List.nil_append] at g1
  subst g1
  rw [← f4] at g3
  have := congrArg (List.drop (Six.sumP acc)) g3
  rw [List.drop_append_of_le_length (by rw [Six.extB_length]; omega), List.drop_of_length_le (l := Six.extB acc _) (by rw [Six.extB_length]; omega), List.nil_append, List.drop_drop] at this
  exact this
theorem Turn6.pis {n : Nat} {xs : List UInt8} {acc : List (Int × List UInt8)} {e : Nat} {udp : Bool} {R : List UInt8} {shi slo dhi dlo sp dp ttl fl : Nat} (h : Turn6 n xs acc e udp R shi slo dhi dlo sp dp ttl fl) (hn : n ≤ 4000) : PIs n xs 0 (pkA true (prN udp) shi slo dhi dlo sp dp ttl fl (e + R.length : Nat)) := by
  obtain ⟨s1, s2, s3, s4, s5, s6, s7, s8, s9⟩ := h.sizes
  have hps : (aheadB true shi slo dhi dlo (prN udp) R.length).length = 40 := by unfold aheadB Six.pseudoB; rw [if_pos rfl]; simp [beB_length, allB]
  have := Pkt.six_fn h.ok (by omega) 0 (upA udp sp dp fl) h.up.good (fun cs h1 h2 h3 h4 => by
    rw [h.sh, h.sl, h.dh, h.dl]
    exact h.up.is (by omega) (by omega) cs h1 h2 h3 h4 58)
  rw [if_pos ⟨h.fr, h.mo⟩, h.sh, h.sl, h.dh, h.dl, h.tl, h.he] at this
  rcases udp with _ | _
  · exact this
  · have hfl : fl = 0 := h.up.fl
    subst hfl
    exact this
/-- A header of version 6 with another address. -/
def turnH6 (H : List UInt8) (s thi tlo : Nat) : List UInt8 := setB H (8 + 16 * s) (beB thi 8 ++ beB tlo 8)
theorem turnH6_get (H : List UInt8) (s thi tlo : Nat) (hs : s ≤ 1) (hl : 40 ≤ H.length) (h1 : thi < 18446744073709551616) (h2 : tlo < 18446744073709551616) :
    (turnH6 H s thi tlo).length = H.length ∧ (∀ i, (i < 8 + 16 * s ∨ 8 + 16 * s + 16 ≤ i) → (turnH6 H s thi tlo)[i]? = H[i]?) ∧ beN (turnH6 H s thi tlo) (8 + 16 * s) 8 = thi ∧ beN (turnH6 H s thi tlo) (8 + 16 * s + 8) 8 = tlo := by
  have hT : (beB thi 8 ++ beB tlo 8).length = 16 := by rw [List.length_append, beB_length, beB_length]
  have ht : (H.take (8 + 16 * s)).length = 8 + 16 * s := by rw [List.length_take]; omega
  unfold turnH6
  refine ⟨setB_length _ _ _ (by omega), fun i hi => setB_get_out _ _ _ (by omega) i (by omega), ?_, ?_⟩
  · unfold setB
    rw [List.append_assoc]
    exact beN_put thi 8 _ _ _ ht h1
  · unfold setB
    rw [List.append_assoc, ← List.append_assoc]
    exact beN_put tlo 8 _ _ _ (by rw [List.length_append, ht, beB_length]) h2
/-- .. and what comes of it. -/
def natB6 (xs : List UInt8) (e : Nat) (udp : Bool) (R : List UInt8) (s thi tlo port whi wlo : Nat) : List UInt8 := turnH6 (xs.take e) s thi tlo ++ turnR udp R s port (splitN whi 4 ++ splitN wlo 4) (splitN thi 4 ++ splitN tlo 4)
theorem Turn6.turn {n : Nat} {xs : List UInt8} {acc : List (Int × List UInt8)} {e : Nat} {udp : Bool} {R : List UInt8} {shi slo dhi dlo sp dp ttl fl : Nat} (h : Turn6 n xs acc e udp R shi slo dhi dlo sp dp ttl fl) (s thi tlo port : Nat) (hs : s ≤ 1) (ht1 : thi < 18446744073709551616) (ht2 : tlo < 18446744073709551616) (hp : port ≤ 65535) :
    Turn6 (e + R.length) (natB6 xs e udp R s thi tlo port (if s = 0 then shi else dhi) (if s = 0 then slo else dlo)) acc e udp (turnR udp R s port (splitN (if s = 0 then shi else dhi) 4 ++ splitN (if s = 0 then slo else dlo) 4) (splitN thi 4 ++ splitN tlo 4)) (if s = 0 then thi else shi) (if s = 0 then tlo else slo) (if s = 0 then dhi else thi) (if s = 0 then dlo else tlo) (if s = 0 then port else sp) (if s = 0 then dp else port) ttl fl := by
  obtain ⟨s1, s2, s3, s4, s5, s6, s7, s8, s9⟩ := h.sizes
  obtain ⟨whi, hwh⟩ : ∃ was, (if s = 0 then shi else dhi) = was := ⟨_, rfl⟩
  obtain ⟨wlo, hwl⟩ : ∃ was, (if s = 0 then slo else dlo) = was := ⟨_, rfl⟩
  rw [hwh, hwl]
  have hHl : (xs.take e).length = e := by rw [List.length_take]; omega
  obtain ⟨g1, g2, g3, g4⟩ := turnH6_get (xs.take e) s thi tlo hs (by omega) ht1 ht2
  have hRl := (turnR_get udp R s port (splitN whi 4 ++ splitN wlo 4) (splitN thi 4 ++ splitN tlo 4) hs h.up.len).1
  obtain ⟨ys, hys⟩ : ∃ ys, natB6 xs e udp R s thi tlo port whi wlo = ys := ⟨_, rfl⟩
  have hys2 : turnH6 (xs.take e) s thi tlo ++ turnR udp R s port (splitN whi 4 ++ splitN wlo 4) (splitN thi 4 ++ splitN tlo 4) = ys := hys
  have yl : ys.length = e + R.length := by rw [← hys2, List.length_append, g1, hHl, hRl]
  have yt : ys.take e = turnH6 (xs.take e) s thi tlo := by rw [← hys2, List.take_append_of_le_length (by omega), List.take_of_length_le (by omega)]
  have yd : ys.drop e = turnR udp R s port (splitN whi 4 ++ splitN wlo 4) (splitN thi 4 ++ splitN tlo 4) := by rw [← hys2, List.drop_append, List.drop_of_length_le (by omega), List.nil_append, g1, hHl, Nat.sub_self, List.drop_zero]
  have yg : ∀ i, i < e → ys[i]? = (turnH6 (xs.take e) s thi tlo)[i]? := fun i hi => by rw [← yt, List.getElem?_take_of_lt hi]
  have same : ∀ i, i < e → (i < 8 + 16 * s ∨ 8 + 16 * s + 16 ≤ i) → ys.getD i 0 = xs.getD i 0 := fun i hi c => by
    rw [getD_of_get (yg i hi), getD_of_get (g2 i c), Six.getD_take xs e i hi]
  have hat1 : beN ys (8 + 16 * s) 8 = thi := by
    rw [← g3]
    exact beN_congr _ _ _ _ fun i a b => getD_of_get (yg i (by omega))
  have hat2 : beN ys (8 + 16 * s + 8) 8 = tlo := by
    rw [← g4]
    exact beN_congr _ _ _ _ fun i a b => getD_of_get (yg i (by omega))
  have hx40 : (ys.take e).drop 40 = (xs.take e).drop 40 := by
    rw [yt]
    unfold turnH6
    exact setB_drop _ _ _ 40 (by rw [List.length_append, beB_length, beB_length]; omega) (by rw [List.length_append, beB_length, beB_length]; omega)
  have hok := SixOk_rest h.ok e h.he yl hRl (fun i hi => same i (by omega) (by omega)) hx40 yd
  rw [hys]
  have put : ∀ p k, (∀ i, p ≤ i → i < p + k → i < 8 + 16 * s ∨ 8 + 16 * s + 16 ≤ i) → p + k ≤ 40 → beN ys p k = beN xs p k := fun p k hc hk => beN_congr _ _ _ _ fun i a b => same i (by omega) (hc i a b)
  refine ⟨hok, h.he, h.fr, h.mo, ?_, ?_, ?_, ?_, by rw [same 7 (by omega) (by omega)]; exact h.tl, ?_⟩
  · by_cases h0 : s = 0
    · subst h0
      rw [if_pos rfl]
      exact hat1
    · obtain rfl : s = 1 := by omega
      rw [if_neg (by omega), put 8 8 (fun i a b => by omega) (by omega)]
      exact h.sh
  · by_cases h0 : s = 0
    · subst h0
      rw [if_pos rfl]
      exact hat2
    · obtain rfl : s = 1 := by omega
      rw [if_neg (by omega), put 16 8 (fun i a b => by omega) (by omega)]
      exact h.sl
  · by_cases h0 : s = 0
    · subst h0
      rw [if_pos rfl, put 24 8 (fun i a b => by omega) (by omega)]
      exact h.dh
    · obtain rfl : s = 1 := by omega
      rw [if_neg (by omega)]
      exact hat1
  · by_cases h0 : s = 0
    · subst h0
      rw [if_pos rfl, put 32 8 (fun i a b => by omega) (by omega)]
      exact h.dl
    · obtain rfl : s = 1 := by omega
      rw [if_neg (by omega)]
      exact hat2
  · have el : ∀ a b c d : Nat, (aheadB true a b c d (prN udp) R.length).length % 2 = 0 := fun a b c d => by unfold aheadB Six.pseudoB; rw [if_pos rfl]; simp [beB_length, allB]
    obtain ⟨C, hC, hA⟩ := tot_ahead true (prN udp) R.length
    have hprn : 6 ≤ prN udp % 256 := by rcases udp with _ | _ <;> decide
    rw [hRl]
    have aW : ∀ hi lo, addrW true hi lo = splitN hi 4 ++ splitN lo 4 := fun _ _ => rfl
    refine h.up.turn _ (el _ _ _ _) (el _ _ _ _) (by rw [hA]; omega) (splitN whi 4 ++ splitN wlo 4) (splitN thi 4 ++ splitN tlo 4) (by simp [splitN_length]) (aW whi wlo ▸ addrW_le true whi wlo) ?_ s port hs hp
    rw [hA, hA]
    simp only [aW]
    rw [← hwh, ← hwl]
    by_cases h0 : s = 0
    · simp only [if_pos h0]; omega
    · simp only [if_neg h0]; omega
end Nat15
end Go.Proofs.Ytfmmmjaficbchaa
/- Plain: the bytes that nat.Turn writes are the packet with another address and port. No condition. -/
namespace Go.Proofs.Ytfmmmjaficbchaa
open Go.RowKit Go.ChangeShapes Go.WideShapes Go.ChangeAt Go.Deep
namespace Nat15
theorem setB_left (H R ys : List UInt8) (p : Nat) (h : p + ys.length ≤ H.length) : setB (H ++ R) p ys = setB H p ys ++ R := by
  unfold setB
  rw [List.take_append_of_le_length (by omega), List.drop_append_of_le_length (by omega)]
  simp [List.append_assoc]
theorem setB_right (H R ys : List UInt8) (p q : Nat) (h : H.length + p = q) : setB (H ++ R) q ys = H ++ setB R p ys := by
  unfold setB
  rw [List.take_append, List.take_of_length_le (by omega), List.drop_append, List.drop_of_length_le (by omega), List.nil_append]
  rw [show q - H.length = p by omega, show q + ys.length - H.length = p + ys.length by omega]
  simp [List.append_assoc]
theorem getD_left (H R : List UInt8) (i : Nat) (h : i < H.length) : (H ++ R).getD i 0 = H.getD i 0 := by
  simp only [List.getD, List.getElem?_append_left h]
theorem getD_right (H R : List UInt8) (i : Nat) : (H ++ R).getD (H.length + i) 0 = R.getD i 0 := by
  simp only [List.getD, List.getElem?_append_right (Nat.le_add_right _ _), Nat.add_sub_cancel_left]
theorem beN_left (H R : List UInt8) (p : Nat) : ∀ k, p + k ≤ H.length → beN (H ++ R) p k = beN H p k
  | 0, _ => rfl
  | k + 1, h => by rw [beN, beN, beN_left H R p k (by omega), getD_left H R _ (by omega)]
theorem beN_right (H R : List UInt8) (p q : Nat) (h : H.length + p = q) : ∀ k, beN (H ++ R) q k = beN R p k
  | 0 => rfl
  | k + 1 => by rw [beN, beN, beN_right H R p q h k, ← h, Nat.add_assoc, getD_right H R _]
theorem setB_setB (xs ys zs : List UInt8) (p : Nat) (h : ys.length = zs.length) (hl : p + ys.length ≤ xs.length) : setB (setB xs p ys) p zs = setB xs p zs := by
  have ht : (xs.take p).length = p := by rw [List.length_take]; omega
  unfold setB
  rw [List.take_append_of_le_length (by omega), List.take_of_length_le (l := xs.take p) (by omega), List.drop_append, List.drop_of_length_le (l := xs.take p) (by omega), List.nil_append, ht, Nat.add_sub_cancel_left, List.drop_append, List.drop_of_length_le (l := ys) (by omega), List.nil_append, ← h, Nat.sub_self, List.drop_zero]
/-- The address and the port, written. -/
def out2 (xs : List UInt8) (T p e s port : Nat) (AB : List UInt8) : List UInt8 := setB (setB (xs.take T) p AB) (e + 2 * s) (beB port 2)
/-- .. and the header's check. -/
def out3 (v6 : Bool) (o2 : List UInt8) (was ts : List Nat) : List UInt8 := if v6 = true then o2 else setB o2 10 (beB (wordsT (beN o2 10 2) (was ++ [0]) (ts ++ [0])) 2)
/-- .. and the check behind the header. -/
def out5 (udp : Bool) (o3 : List UInt8) (wh wp port : Nat) (was ts : List Nat) : List UInt8 :=
  if udp = true ∧ beN o3 wh 2 = 0 then o3
  else if udp = true ∧ wordsT (beN o3 wh 2) (was ++ [wp]) (ts ++ [port]) = 0 then setB (setB o3 wh (beB (wordsT (beN o3 wh 2) (was ++ [wp]) (ts ++ [port])) 2)) wh (beB 65535 2)
  else setB o3 wh (beB (wordsT (beN o3 wh 2) (was ++ [wp]) (ts ++ [port])) 2)
theorem out5_eq (udp : Bool) (H R : List UInt8) (e s wp port : Nat) (was ts : List Nat) (hH : H.length = e) (hs : s ≤ 1) (hl : whR udp + 2 ≤ R.length) (hwp : beN R (2 * s) 2 = wp) :
    out5 udp (H ++ setB R (2 * s) (beB port 2)) (e + whR udp) wp port was ts = H ++ turnR udp R s port was ts := by
  have hw : 6 ≤ whR udp := by unfold whR; split <;> omega
  have hb : beN (H ++ setB R (2 * s) (beB port 2)) (e + whR udp) 2 = beN R (whR udp) 2 := by
    rw [beN_right H _ (whR udp) _ (by rw [hH]) 2]
    exact beN_congr _ _ _ _ fun i h1 h2 => setB_getD_out _ _ _ (by rw [beB_length]; omega) i (by rw [beB_length]; omega)
  have l1 : (setB R (2 * s) (beB port 2)).length = R.length := setB_length _ _ _ (by rw [beB_length]; omega)
  unfold out5 turnR
  rw [hb, hwp]
  rcases udp with _ | _
  · simp only [Bool.false_eq_true, false_and, if_false]
    rw [setB_right H _ _ (whR false) _ (by rw [hH])]
  · have w6 : whR true = 6 := rfl
    simp only [true_and, w6]
    by_cases h0 : beN R 6 2 = 0
    · rw [if_pos h0, if_pos h0]
    · rw [if_neg h0, if_neg h0]
      by_cases h1 : wordsT (beN R 6 2) (was ++ [wp]) (ts ++ [port]) = 0
      · rw [if_pos h1, if_pos h1, setB_setB _ _ _ _ (by rw [beB_length, beB_length]) (by rw [beB_length, List.length_append, l1]; omega), setB_right H _ _ 6 _ (by rw [hH])]
      · rw [if_neg h1, if_neg h1, setB_right H _ _ 6 _ (by rw [hH])]
/-- What nat.Turn writes, in version 4. -/
theorem turn_out4 {n : Nat} {xs : List UInt8} {al e : Nat} {udp : Bool} {R : List UInt8} {slo dlo sp dp ttl fl : Nat} (h : Turn4 n xs al e udp R slo dlo sp dp ttl fl) (s tlo port was wp : Nat) (hs : s ≤ 1) (hw : (if s = 0 then slo else dlo) = was) (hwp : (if s = 0 then sp else dp) = wp) :
    out5 udp (out3 false (out2 xs al (12 + 4 * s) e s port (addrB false 0 tlo)) (addrW false 0 was) (addrW false 0 tlo)) (e + whR udp) wp port (addrW false 0 was) (addrW false 0 tlo) = natB4 xs al e udp R s tlo port was := by
  obtain ⟨s1, s2, s3, s4, s5, s6, s7, s8, s9⟩ := h.sizes
  have aW : ∀ hi lo, addrW false hi lo = splitN lo 2 := fun _ _ => rfl
  have aB : ∀ hi lo, addrB false hi lo = beB lo 4 := fun _ _ => rfl
  have hl := h.up.len
  have hwh : 6 ≤ whR udp := by unfold whR; split <;> omega
  have hH : (xs.take e).length = e := by rw [List.length_take]; omega
  have hx : xs.take al = xs.take e ++ R := by
    rw [← h.hR]
    conv => lhs; rw [← List.take_append_drop e (xs.take al)]
    rw [List.take_take, Nat.min_eq_left (by omega)]
  have hc : beN R (2 * s) 2 = wp := by
    rw [← hwp]
    by_cases h0 : s = 0
    · rw [if_pos h0, h0]; exact h.up.sp
    · obtain rfl : s = 1 := by omega
      rw [if_neg (by omega)]; exact h.up.dp
  have hwas : beN (xs.take e) (12 + 4 * s) 4 = was := by
    rw [Six.beN_take xs e _ 4 (by omega), ← hw]
    by_cases h0 : s = 0
    · rw [if_pos h0, h0]; exact h.sl
    · obtain rfl : s = 1 := by omega
      rw [if_neg (by omega)]; exact h.dl
  have l1 : (setB (xs.take e) (12 + 4 * s) (beB tlo 4)).length = e := by rw [setB_length _ _ _ (by rw [beB_length]; omega), hH]
  have b10 : beN (setB (xs.take e) (12 + 4 * s) (beB tlo 4)) 10 2 = beN (xs.take e) 10 2 := beN_congr _ _ _ _ fun i h1 h2 => setB_getD_out _ _ _ (by rw [beB_length]; omega) i (by rw [beB_length]; omega)
  unfold out2 out3 natB4 turnH4
  simp only [aW, aB, Bool.false_eq_true, if_false]
  rw [hx, setB_left _ _ _ _ (by rw [beB_length, hH]; omega), setB_right _ _ _ (2 * s) _ (by rw [l1]), beN_left _ _ 10 2 (by rw [l1]; omega), setB_left _ _ _ _ (by rw [beB_length, l1]; omega), b10, hwas]
  exact out5_eq udp _ R e s wp port _ _ (by rw [setB_length _ _ _ (by rw [beB_length, l1]; omega), l1]) hs hl hc
/-- .. and in version 6. -/
theorem turn_out6 {n : Nat} {xs : List UInt8} {acc : List (Int × List UInt8)} {e : Nat} {udp : Bool} {R : List UInt8} {shi slo dhi dlo sp dp ttl fl : Nat} (h : Turn6 n xs acc e udp R shi slo dhi dlo sp dp ttl fl) (s thi tlo port whi wlo wp : Nat) (hs : s ≤ 1) (hwp : (if s = 0 then sp else dp) = wp) :
    out5 udp (out3 true (out2 xs (e + R.length) (8 + 16 * s) e s port (addrB true thi tlo)) (addrW true whi wlo) (addrW true thi tlo)) (e + whR udp) wp port (addrW true whi wlo) (addrW true thi tlo) = natB6 xs e udp R s thi tlo port whi wlo := by
  obtain ⟨s1, s2, s3, s4, s5, s6, s7, s8, s9⟩ := h.sizes
  have aW : ∀ hi lo, addrW true hi lo = splitN hi 4 ++ splitN lo 4 := fun _ _ => rfl
  have aB : ∀ hi lo, addrB true hi lo = beB hi 8 ++ beB lo 8 := fun _ _ => rfl
  have hl := h.up.len
  have hwh : 6 ≤ whR udp := by unfold whR; split <;> omega
  have hH : (xs.take e).length = e := by rw [List.length_take]; omega
  have hR : (xs.take (e + R.length)).drop e = R := by
    have := h.rest
    rw [h.he] at this
    exact this
  have hx : xs.take (e + R.length) = xs.take e ++ R := by
    conv => lhs; rw [← List.take_append_drop e (xs.take (e + R.length))]
    rw [List.take_take, Nat.min_eq_left (by omega), hR]
  have hc : beN R (2 * s) 2 = wp := by
    rw [← hwp]
    by_cases h0 : s = 0
    · rw [if_pos h0, h0]; exact h.up.sp
    · obtain rfl : s = 1 := by omega
      rw [if_neg (by omega)]; exact h.up.dp
  have al : (beB thi 8 ++ beB tlo 8).length = 16 := by rw [List.length_append, beB_length, beB_length]
  have l1 : (setB (xs.take e) (8 + 16 * s) (beB thi 8 ++ beB tlo 8)).length = e := by rw [setB_length _ _ _ (by rw [al]; omega), hH]
  unfold out2 out3 natB6 turnH6
  simp only [aW, aB, if_true]
  rw [hx, setB_left _ _ _ _ (by rw [al, hH]; omega), setB_right _ _ _ (2 * s) _ (by rw [l1])]
  exact out5_eq udp _ R e s wp port _ _ l1 hs hl hc
end Nat15
end Go.Proofs.Ytfmmmjaficbchaa
/- Plain: what bytes may be: no packet, a packet of an error, or a packet that can be turned. Conditions: at most 4000 bytes. -/
namespace Go.Proofs.Ytfmmmjaficbchaa
open Go.RowKit Go.ChangeShapes Go.WideShapes Go.ChangeAt Go.Deep
namespace Nat15
open Pkt (aheadB PIs UpIs GoodG udpA tcpA pkA p4A p6A errA tuA pkG)
/-- A packet of an error. -/
def IsE (y : Array Value) : Prop := ∃ (v6 : Bool) (pr : Int) (sv : Bool) (shi slo : Int) (dv : Bool) (dhi dlo sp dp ttl : Int) (fl : Nat) (apr : Int) (asv : Bool) (ashi aslo : Int) (adv : Bool) (adhi adlo asp adp sz : Int), fl ≤ 255 ∧ y = pkG v6 pr sv shi slo dv dhi dlo sp dp ttl fl true apr asv ashi aslo adv adhi adlo asp adp sz
theorem upper_fn2 (v6 : Bool) (pr : Int) (xs ps : List UInt8) (hnm : xs.length ≤ 1099511627776) (hm : ps.length ≤ maxLen) (h6 : pr ≠ 6) (h17 : pr ≠ 17) :
    ∃ K g, GoodG g ∧ (∀ cs : Array Value, cs.size = 23 → cs.all (·.oneCell') = true → cs[0]? = some (.bool v6) → cs[1]? = some (.int .i64 pr) → UpIs cs (if v6 = true then 58 else 1) xs ps K (g cs)) ∧ (K = 0 → ∃ (qr : Int) (sv : Bool) (sh sl : Int) (dv : Bool) (dh dl sp dp : Int), g = fun cs => errA cs (tuA qr sv sh sl dv dh dl sp dp)) := by
  by_cases he : pr = (if v6 = true then 58 else 1)
  · have ha : (Pkt.aheadP v6 ps).length ≤ maxLen := by
      unfold Pkt.aheadP
      split
      · exact hm
      · simp [maxLen]
    obtain ⟨K1, ty, cd, wd, ds, _, hds, hP⟩ := Icmp.parse_is xs (Pkt.aheadP v6 ps) hnm ha
    obtain ⟨K2, qr, sv, sh, sl, dv, dh, dl, sp, dp, hQ⟩ := Icmp.quoted_is v6 ty ds (by omega)
    exact ⟨_, fun cs => errA cs (tuA qr dv dh dl sv sh sl dp sp), .inr (.inr ⟨_, _, _, _, _, _, _, _, _, rfl⟩),
      fun cs hcs hone h0 h1 A P c d w hx hp hc hcm => Pkt.upper_err cs hcs hone v6 h0 pr h1 _ A P c d xs ps w hx hp hc hcm hnm hm h6 h17 he K1 ty cd wd ds hP K2 qr sv sh sl dv dh dl sp dp hQ, fun _ => ⟨_, _, _, _, _, _, _, _, _, rfl⟩⟩
  · exact ⟨14, fun cs => udpA cs 0 0, .inr (.inl ⟨0, 0, rfl⟩), fun cs hcs hone h0 h1 A P c d w hx hp hc hcm => Pkt.upper_none cs hcs hone v6 h0 pr h1 _ A P c d xs ps w hx hp hc hcm hnm hm h6 h17 he _, fun h => by cases h⟩
/-- What is behind a header of TCP or UDP is whole, or says why not. -/
theorem up_case (v6 udp : Bool) (R ps : List UInt8) (hR : R.length ≤ 4096) (hp : ps.length ≤ 4096) :
    (∃ K g, K ≠ 0 ∧ GoodG g ∧ ∀ cs : Array Value, cs.size = 23 → cs.all (·.oneCell') = true → cs[0]? = some (.bool v6) → cs[1]? = some (.int .i64 (prN udp : Int)) → UpIs cs (if v6 = true then 58 else 1) R ps K (g cs)) ∨ ∃ sp dp fl, Up v6 udp ps R sp dp fl := by
  have hm : ps.length ≤ maxLen := by unfold maxLen; omega
  have hRm : R.length ≤ 1099511627776 := by omega
  rcases udp with _ | _
  · by_cases hK : Tcp.parseK ps R = 0
    · refine .inr ⟨beN R 0 2, beN R 2 2, (R.getD 13 0).toNat, ?_, by rw [if_neg (by simp)]; exact hK, rfl, rfl, by rw [if_neg (by simp)]⟩
      have w16 : whR false = 16 := rfl
      unfold Tcp.parseK at hK
      split at hK
      · omega
      · omega
    · exact .inl ⟨Tcp.parseK ps R, fun cs => tcpA cs 0 0 0, hK, .inl ⟨0, 0, 0, by omega, rfl⟩, fun cs hcs hone h0 h1 A P c d w hx hpw hc hcm => Pkt.upper_tcp cs hcs hone v6 h0 6 h1 _ A P c d R ps w hx hpw hc hcm hRm hm rfl _ rfl _ (fun h => absurd h hK)⟩
  · by_cases hK : Udp.parseK (!v6) ps R = 0
    · refine .inr ⟨beN R 0 2, beN R 2 2, 0, ?_, by rw [if_pos rfl]; exact hK, rfl, rfl, by rw [if_pos rfl]⟩
      have w6 : whR true = 6 := rfl
      unfold Udp.parseK at hK
      split at hK
      · omega
      · omega
    · exact .inl ⟨Udp.parseK (!v6) ps R, fun cs => udpA cs 0 0, hK, .inr (.inl ⟨0, 0, rfl⟩), fun cs hcs hone h0 h1 A P c d w hx hpw hc hcm => Pkt.upper_udp cs hcs hone v6 h0 17 h1 _ A P c d R ps w hx hpw hc hcm hRm hm rfl _ rfl _ (fun h => absurd h hK)⟩
theorem pis_irrel {n : Nat} {xs : List UInt8} {K : Nat} {y y' : Array Value} (h : PIs n xs K y) (hK : K ≠ 0) : PIs n xs K y' := fun A c w hx hc hcm => (h A c w hx hc hcm).mono (by
  rintro e w' ⟨rfl, hb⟩
  exact ⟨by rw [if_neg hK, if_neg hK], hb⟩)
theorem four_cases {n : Nat} {xs : List UInt8} (h : Tun.FourOk n xs) (hn : n ≤ 4000) : (∃ K, K ≠ 0 ∧ PIs n xs K #[]) ∨ (∃ y, PIs n xs 0 y ∧ IsE y) ∨ ∃ al e udp R slo dlo sp dp ttl fl, Turn4 n xs al e udp R slo dlo sp dp ttl fl := by
  obtain ⟨e, he⟩ : ∃ e, (xs.getD 0 0).toNat % 16 * 4 = e := ⟨_, rfl⟩
  obtain ⟨al, hal⟩ : ∃ al, beN xs 2 2 = al := ⟨_, rfl⟩
  obtain ⟨R, hR⟩ : ∃ R, (xs.take al).drop e = R := ⟨_, rfl⟩
  have g6 := h.h6
  have g7 := h.h7
  have gl := h.len
  rw [he] at g6
  rw [hal] at g6 g7
  have hRl : R.length = al - e := by rw [← hR, List.length_drop, List.length_take]; omega
  have hps : ∀ a b p s, (Pkt.ps4 a b p s).length = 12 := fun a b p s => by unfold Pkt.ps4; simp [beB_length]
  by_cases hf : beN xs 6 2 % 16384 = 0
  · by_cases hu : ∃ udp, (xs.getD 9 0).toNat = prN udp
    · obtain ⟨udp, hu⟩ := hu
      rcases up_case false udp R (aheadB false 0 (beN xs 12 4) 0 (beN xs 16 4) (prN udp) (al - e)) (by omega) (by unfold aheadB; rw [if_neg (by simp)]; simp [beB_length]) with ⟨K, g, hK, hg, hU⟩ | ⟨sp, dp, fl, hUp⟩
      · refine .inl ⟨K, hK, ?_⟩
        have := Pkt.four_fn h (by omega) e al he hal K g hg (fun cs h1 h2 h3 h4 => by
          rw [hu] at h4 ⊢
          rw [hR]
          exact hU cs h1 h2 h3 h4)
        rw [if_pos hf] at this
        exact pis_irrel this hK
      · exact .inr (.inr ⟨al, e, udp, R, _, _, sp, dp, _, fl, h, he, hal, hf, hu, hR, rfl, rfl, rfl, hUp⟩)
    · obtain ⟨K, g, hg, hU, hE⟩ := upper_fn2 false ((xs.getD 9 0).toNat : Int) R (Pkt.ps4 (beN xs 12 4) (beN xs 16 4) (xs.getD 9 0).toNat (al - e)) (by omega) (by rw [hps]; unfold maxLen; omega)
        (fun h6 => hu ⟨false, by show _ = 6; omega⟩) (fun h17 => hu ⟨true, by show _ = 17; omega⟩)
      have := Pkt.four_fn h (by omega) e al he hal K g hg (fun cs h1 h2 h3 h4 => by
        rw [hR]
        exact hU cs h1 h2 h3 h4)
      rw [if_pos hf] at this
      by_cases hK : K = 0
      · subst hK
        obtain ⟨qr, sv, sh, sl, dv, dh, dl, sp, dp, rfl⟩ := hE rfl
        exact .inr (.inl ⟨_, this, _, _, _, _, _, _, _, _, _, _, _, 0, _, _, _, _, _, _, _, _, _, _, by omega, rfl⟩)
      · exact .inl ⟨K, hK, pis_irrel this hK⟩
  · refine .inl ⟨21, by omega, ?_⟩
    obtain ⟨K, g, hg, hU⟩ := Pkt.upper_fn false ((xs.getD 9 0).toNat : Int) R (Pkt.ps4 (beN xs 12 4) (beN xs 16 4) (xs.getD 9 0).toNat (al - e)) (by omega) (by rw [hps]; unfold maxLen; omega)
    have := Pkt.four_fn h (by omega) e al he hal K g hg (fun cs h1 h2 h3 h4 => by
      rw [hR]
      exact hU cs h1 h2 h3 h4)
    rw [if_neg hf] at this
    exact pis_irrel this (by omega)
theorem six_cases {n : Nat} {xs : List UInt8} {acc : List (Int × List UInt8)} {nx : Nat} {R : List UInt8} (h : Tun.SixOk n xs acc nx R) (hn : n ≤ 4000) : (∃ K, K ≠ 0 ∧ PIs n xs K #[]) ∨ (∃ y, PIs n xs 0 y ∧ IsE y) ∨ ∃ e udp shi slo dhi dlo sp dp ttl fl, Turn6 n xs acc e udp R shi slo dhi dlo sp dp ttl fl := by
  obtain ⟨f1, f2, f3, f4, f5, f6, f7, f8⟩ := h.facts
  have hps : ∀ a b c d s p, (Six.pseudoB a b c d s p).length = 40 := fun a b c d s p => by unfold Six.pseudoB; simp [beB_length, allB]
  by_cases hf : Six.fragP acc = 0 ∧ Six.moreP acc = false
  · by_cases hu : ∃ udp, nx = prN udp
    · obtain ⟨udp, hu⟩ := hu
      rcases up_case true udp R (aheadB true (beN xs 8 8) (beN xs 16 8) (beN xs 24 8) (beN xs 32 8) (prN udp) R.length) (by omega) (by unfold aheadB; rw [if_pos rfl, hps]; omega) with ⟨K, g, hK, hg, hU⟩ | ⟨sp, dp, fl, hUp⟩
      · refine .inl ⟨K, hK, ?_⟩
        have := Pkt.six_fn h (by omega) K g hg (fun cs h1 h2 h3 h4 => by
          rw [hu] at h4 ⊢
          exact hU cs h1 h2 h3 h4)
        rw [if_pos hf] at this
        exact pis_irrel this hK
      · exact .inr (.inr ⟨_, udp, _, _, _, _, sp, dp, _, fl, hu ▸ h, rfl, hf.1, hf.2, rfl, rfl, rfl, rfl, rfl, hUp⟩)
    · obtain ⟨K, g, hg, hU, hE⟩ := upper_fn2 true (nx : Int) R (Six.pseudoB (beN xs 8 8) (beN xs 16 8) (beN xs 24 8) (beN xs 32 8) R.length nx) (by omega) (by rw [hps]; unfold maxLen; omega)
        (fun h6 => hu ⟨false, by show _ = 6; omega⟩) (fun h17 => hu ⟨true, by show _ = 17; omega⟩)
      have := Pkt.six_fn h (by omega) K g hg (fun cs h1 h2 h3 h4 => hU cs h1 h2 h3 h4)
      rw [if_pos hf] at this
      by_cases hK : K = 0
      · subst hK
        obtain ⟨qr, sv, sh, sl, dv, dh, dl, sp, dp, rfl⟩ := hE rfl
        exact .inr (.inl ⟨_, this, _, _, _, _, _, _, _, _, _, _, _, 0, _, _, _, _, _, _, _, _, _, _, by omega, rfl⟩)
      · exact .inl ⟨K, hK, pis_irrel this hK⟩
  · refine .inl ⟨21, by omega, ?_⟩
    obtain ⟨K, g, hg, hU⟩ := Pkt.upper_fn true (nx : Int) R (Six.pseudoB (beN xs 8 8) (beN xs 16 8) (beN xs 24 8) (beN xs 32 8) R.length nx) (by omega) (by rw [hps]; unfold maxLen; omega)
    have := Pkt.six_fn h (by omega) K g hg (fun cs h1 h2 h3 h4 => hU cs h1 h2 h3 h4)
    rw [if_neg hf] at this
    exact pis_irrel this (by omega)
/-- What bytes may be. -/
theorem pkt_cases (n : Nat) (xs : List UInt8) (hl : xs.length = n) (hn : n ≤ 4000) : (∃ K, K ≠ 0 ∧ PIs n xs K #[]) ∨ (∃ y, PIs n xs 0 y ∧ IsE y) ∨ (∃ al e udp R slo dlo sp dp ttl fl, Turn4 n xs al e udp R slo dlo sp dp ttl fl) ∨ ∃ acc e udp R shi slo dhi dlo sp dp ttl fl, Turn6 n xs acc e udp R shi slo dhi dlo sp dp ttl fl := by
  by_cases h0 : n = 0
  · exact .inl ⟨2, by omega, fun A c w hx hc hcm => Pkt.Parse_none n xs h0 #[] A c w hx hc hcm⟩
  by_cases h4 : (xs.getD 0 0).toNat / 16 = 4
  · rcases Tun.four_case n xs hl (by omega) with ⟨K, hK, _, hF⟩ | h
    · exact .inl ⟨K, hK, fun A c w hx hc hcm => Pkt.Parse_four n xs (by omega) (by omega) h4 K #[] (fun h => absurd h hK) (fun A c w hx hc hcm => Pkt.parse4_bad n xs K hK hF #[] A c w hx hc hcm) A c w hx hc hcm⟩
    · rcases four_cases h hn with h | h | h
      · exact .inl h
      · exact .inr (.inl h)
      · exact .inr (.inr (.inl h))
  by_cases h6 : (xs.getD 0 0).toNat / 16 = 6
  · rcases Tun.six_case n xs hl (by omega) with ⟨K, hK, _, hF⟩ | ⟨acc, nx, R, h⟩
    · exact .inl ⟨K, hK, fun A c w hx hc hcm => Pkt.Parse_six n xs (by omega) (by omega) h6 K #[] (fun h => absurd h hK) (fun A c w hx hc hcm => Pkt.parse6_bad n xs K hK hF #[] A c w hx hc hcm) A c w hx hc hcm⟩
    · rcases six_cases h hn with h | h | ⟨e, udp, shi, slo, dhi, dlo, sp, dp, ttl, fl, h⟩
      · exact .inl h
      · exact .inr (.inl h)
      · exact .inr (.inr (.inr ⟨acc, e, udp, R, shi, slo, dhi, dlo, sp, dp, ttl, fl, h⟩))
  exact .inl ⟨10, by omega, fun A c w hx hc hcm => Pkt.Parse_else n xs (by omega) (by omega) ⟨h4, h6⟩ #[] A c w hx hc hcm⟩
end Nat15
end Go.Proofs.Ytfmmmjaficbchaa
/- The law's awake, by contract: it is true. No condition. -/
namespace Go.Proofs.Ytfmmmjaficbchaa
open Go.RowKit Go.ChangeShapes Go.WideShapes Go.ChangeAt Go.Deep
namespace Pkt
end Pkt
end Go.Proofs.Ytfmmmjaficbchaa
/- The statement PktMakes: which flows can be made, by contract, and what is behind a header. Conditions: slices of bytes that read as lists, numbers of 64 bits. -/
namespace Go.Proofs.Ytfmmmjaficbchaa
open Go.RowKit Go.ChangeShapes Go.WideShapes Go.ChangeAt Go.Deep
namespace Pkt
theorem InEnd.as {U V : List UInt8} {K : Nat} {w w' : World} {e : Ending} (h : InEnd K U w w' e) (hk : K ≠ 0) : InEnd K V w w' e := by
  obtain ⟨v, he, h1, h2, h3⟩ := h
  exact ⟨v, he, fun h => absurd h hk, h2, h3⟩
theorem datagram_any (pr : Int) (sv : Bool) (shi slo : Nat) (dv : Bool) (dhi dlo : Nat) (sp dp ttl : Int) (A : Option Addr) (n c : Nat) (xs : List UInt8) (w : World) (hx : IsB w w.heap.size A n xs) (hn : n ≤ 4000)
    (h4 : shi < 18446744073709551616) (h5 : slo < 18446744073709551616) (h6 : dhi < 18446744073709551616) (h7 : dlo < 18446744073709551616) :
    Calls Try.prog 16 #[.agg (tuA pr sv shi slo dv dhi dlo sp dp), .int .i64 ttl, .slice A n c] w fun e w' => InEnd (dgmK pr sv shi slo dv dhi dlo sp dp ttl) (wrapB sv shi slo dhi dlo 17 ttl (dgU sv shi slo dhi dlo sp dp xs)) w w' e := by
  by_cases h : pr ≠ 17 ∨ sv ≠ dv
  · have hk : dgmK pr sv shi slo dv dhi dlo sp dp ttl = 1 := by unfold dgmK; rw [if_pos h]
    rw [hk]
    exact (datagram_no pr sv shi slo dv dhi dlo sp dp ttl A n c w h).mono fun e w' he => he.as (by omega)
  · obtain ⟨rfl, rfl⟩ : pr = 17 ∧ sv = dv := by simpa using h
    rcases sv with _ | _
    · exact datagram_four shi slo dhi dlo sp dp ttl A n c xs w hx hn h4 h5 h6 h7
    · exact datagram_six shi slo dhi dlo sp dp ttl A n c xs w hx hn h4 h5 h6 h7
theorem segment_any (pr : Int) (sv : Bool) (shi slo : Nat) (dv : Bool) (dhi dlo : Nat) (sp dp ttl fl : Int) (A : Option Addr) (n c : Nat) (xs : List UInt8) (w : World) (hx : IsB w w.heap.size A n xs) (hn : n ≤ 4000)
    (h4 : shi < 18446744073709551616) (h5 : slo < 18446744073709551616) (h6 : dhi < 18446744073709551616) (h7 : dlo < 18446744073709551616) :
    Calls Try.prog 18 #[.agg (tuA pr sv shi slo dv dhi dlo sp dp), .int .i64 ttl, .int .i64 fl, .slice A n c] w fun e w' => InEnd (sgmK pr sv shi slo dv dhi dlo sp dp fl ttl) (wrapB sv shi slo dhi dlo 6 ttl (sgU sv shi slo dhi dlo sp dp fl xs)) w w' e := by
  by_cases h : pr ≠ 6 ∨ sv ≠ dv
  · have hk : sgmK pr sv shi slo dv dhi dlo sp dp fl ttl = 1 := by unfold sgmK; rw [if_pos h]
    rw [hk]
    exact (segment_no pr sv shi slo dv dhi dlo sp dp ttl fl A n c w h).mono fun e w' he => he.as (by omega)
  · obtain ⟨rfl, rfl⟩ : pr = 6 ∧ sv = dv := by simpa using h
    rcases sv with _ | _
    · exact segment_four shi slo dhi dlo sp dp ttl fl A n c xs w hx hn h4 h5 h6 h7
    · exact segment_six shi slo dhi dlo sp dp ttl fl A n c xs w hx hn h4 h5 h6 h7
theorem wrapK_le (v : Bool) (ttl a b c d : Int) : wrapK v ttl a b c d ≤ 1 := by
  unfold wrapK ttlK fourK
  split <;> split <;> omega
theorem dgmK_le (pr : Int) (sv : Bool) (shi slo : Int) (dv : Bool) (dhi dlo sp dp ttl : Int) : dgmK pr sv shi slo dv dhi dlo sp dp ttl ≤ 1 := by
  have h1 := wrapK_le sv ttl shi slo dhi dlo
  have h2 : dgK sp dp ≤ 1 := by unfold dgK; split <;> omega
  unfold dgmK
  split
  · omega
  · split <;> omega
theorem sgmK_le (pr : Int) (sv : Bool) (shi slo : Int) (dv : Bool) (dhi dlo sp dp fl ttl : Int) : sgmK pr sv shi slo dv dhi dlo sp dp fl ttl ≤ 1 := by
  have h1 := wrapK_le sv ttl shi slo dhi dlo
  have h2 : sgK sp dp fl ≤ 1 := by unfold sgK; split <;> omega
  unfold sgmK
  split
  · omega
  · split <;> omega
theorem okA_iff (hi lo : Int) (h1 : 0 ≤ lo) : (Four.okA false hi lo = true) ↔ (hi = 0 ∧ lo < 4294967296) := by
  unfold Four.okA
  simp
theorem wrapK_iff (sv : Bool) (ttl : Int) (shi slo dhi dlo : Nat) : wrapK sv ttl shi slo dhi dlo = 0 ↔ (0 ≤ ttl ∧ ttl ≤ 255 ∧ (sv = true ∨ ((shi : Int) = 0 ∧ (dhi : Int) = 0 ∧ (slo : Int) < 4294967296 ∧ (dlo : Int) < 4294967296))) := by
  unfold wrapK
  rcases sv with _ | _
  · rw [if_neg (by simp)]
    unfold fourK
    have o1 := okA_iff shi slo (by omega)
    have o2 := okA_iff dhi dlo (by omega)
    split
    · rename_i h
      rw [o1, o2] at h
      exact ⟨fun _ => ⟨h.1, h.2.1, .inr ⟨h.2.2.1.1, h.2.2.2.1, h.2.2.1.2, h.2.2.2.2⟩⟩, fun _ => rfl⟩
    · rename_i h
      rw [o1, o2] at h
      refine ⟨fun h => absurd h (by omega), fun ⟨a, b, c⟩ => ?_⟩
      rcases c with c | ⟨c, d, e, f⟩
      · cases c
      · exact absurd ⟨a, b, ⟨c, e⟩, d, f⟩ h
  · rw [if_pos rfl]
    unfold ttlK
    split
    · rename_i h
      exact ⟨fun _ => ⟨h.1, h.2, .inl rfl⟩, fun _ => rfl⟩
    · rename_i h
      exact ⟨fun h => absurd h (by omega), fun ⟨a, b, _⟩ => absurd ⟨a, b⟩ h⟩
theorem dgm_made (pr : Int) (sv : Bool) (shi slo : Nat) (dv : Bool) (dhi dlo : Nat) (sp dp ttl : Int) : madeP pr sv shi slo dv dhi dlo sp dp ttl 0 17 ↔ dgmK pr sv shi slo dv dhi dlo sp dp ttl = 0 := by
  unfold dgmK madeP
  by_cases h : pr ≠ 17 ∨ sv ≠ dv
  · rw [if_pos h]
    exact ⟨fun hh => by rcases h with h | h; exact absurd hh.1 h; exact absurd hh.2.1 h, fun hh => by omega⟩
  · rw [if_neg h]
    obtain ⟨rfl, rfl⟩ : pr = 17 ∧ sv = dv := by simpa using h
    have hw := wrapK_iff sv ttl shi slo dhi dlo
    have hd : dgK sp dp = 0 ↔ (0 ≤ sp ∧ sp ≤ 65535 ∧ 0 ≤ dp ∧ dp ≤ 65535) := by
      unfold dgK Udp.rightP
      simp only [decide_eq_true_eq]
      split
      · rename_i h; exact ⟨fun _ => (by omega), fun _ => rfl⟩
      · rename_i h; exact ⟨fun h => absurd h (by omega), fun hh => absurd (by omega) h⟩
    by_cases h0 : dgK sp dp = 0
    · rw [if_pos h0, hw]
      have h1 := hd.1 h0
      exact ⟨fun hh => ⟨hh.2.2.1, hh.2.2.2.1, hh.2.2.2.2.2.2.2.2.2.2⟩, fun hh => ⟨rfl, rfl, hh.1, hh.2.1, h1.1, h1.2.1, h1.2.2.1, h1.2.2.2, by omega, by omega, hh.2.2⟩⟩
    · rw [if_neg h0]
      exact ⟨fun hh => absurd (hd.2 ⟨hh.2.2.2.2.1, hh.2.2.2.2.2.1, hh.2.2.2.2.2.2.1, hh.2.2.2.2.2.2.2.1⟩) h0, fun hh => absurd hh h0⟩
theorem sgm_made (pr : Int) (sv : Bool) (shi slo : Nat) (dv : Bool) (dhi dlo : Nat) (sp dp ttl fl : Int) : madeP pr sv shi slo dv dhi dlo sp dp ttl fl 6 ↔ sgmK pr sv shi slo dv dhi dlo sp dp fl ttl = 0 := by
  unfold sgmK madeP
  by_cases h : pr ≠ 6 ∨ sv ≠ dv
  · rw [if_pos h]
    exact ⟨fun hh => by rcases h with h | h; exact absurd hh.1 h; exact absurd hh.2.1 h, fun hh => by omega⟩
  · rw [if_neg h]
    obtain ⟨rfl, rfl⟩ : pr = 6 ∧ sv = dv := by simpa using h
    have hw := wrapK_iff sv ttl shi slo dhi dlo
    have hd : sgK sp dp fl = 0 ↔ (0 ≤ sp ∧ sp ≤ 65535 ∧ 0 ≤ dp ∧ dp ≤ 65535 ∧ 0 ≤ fl ∧ fl ≤ 255) := by
      unfold sgK Tcp.rightP
      simp only [decide_eq_true_eq]
      split
      · rename_i h; exact ⟨fun _ => (by omega), fun _ => rfl⟩
      · rename_i h; exact ⟨fun h => absurd h (by omega), fun hh => absurd (by omega) h⟩
    by_cases h0 : sgK sp dp fl = 0
    · rw [if_pos h0, hw]
      have h1 := hd.1 h0
      exact ⟨fun hh => ⟨hh.2.2.1, hh.2.2.2.1, hh.2.2.2.2.2.2.2.2.2.2⟩, fun hh => ⟨rfl, rfl, hh.1, hh.2.1, h1.1, h1.2.1, h1.2.2.1, h1.2.2.2.1, h1.2.2.2.2.1, h1.2.2.2.2.2, hh.2.2⟩⟩
    · rw [if_neg h0]
      exact ⟨fun hh => absurd (hd.2 ⟨hh.2.2.2.2.1, hh.2.2.2.2.2.1, hh.2.2.2.2.2.2.1, hh.2.2.2.2.2.2.2.1, hh.2.2.2.2.2.2.2.2.1, hh.2.2.2.2.2.2.2.2.2.1⟩) h0, fun hh => absurd hh h0⟩
theorem wrapB_rest (sv : Bool) (shi slo dhi dlo pr : Nat) (ttl : Int) (U : List UInt8) (k : Nat) : (wrapB sv shi slo dhi dlo pr ttl U).drop ((if sv = true then 40 else 20) + k) = U.drop k := by
  unfold wrapB
  rcases sv with _ | _
  · rw [if_neg (by simp), if_neg (by simp)]
    have h : (Four.hdB 0 0 0 ttl.toNat pr slo dlo [] U.length).length = 20 := by rw [Four.hdB_length]; rfl
    rw [← h, List.drop_append, List.drop_of_length_le (by omega), List.nil_append]
    congr 1
    omega
  · rw [if_pos rfl, if_pos rfl]
    have h : (Six.hd8 0 0 ttl.toNat pr U.length ++ addrB true shi slo ++ addrB true dhi dlo).length = 40 := by
      simp [Six.hd8_length, addrB, beB_length]
    have h2 : Six.allB6 0 0 ttl.toNat shi slo dhi dlo pr [] U = (Six.hd8 0 0 ttl.toNat pr U.length ++ addrB true shi slo ++ addrB true dhi dlo) ++ U := rfl
    rw [h2, ← h, List.drop_append, List.drop_of_length_le (by omega), List.nil_append]
    congr 1
    omega
theorem wrapB_length (sv : Bool) (shi slo dhi dlo pr : Nat) (ttl : Int) (U : List UInt8) : (wrapB sv shi slo dhi dlo pr ttl U).length = (if sv = true then 40 else 20) + U.length := by
  unfold wrapB
  rcases sv with _ | _
  · rw [if_neg (by simp), if_neg (by simp), List.length_append, Four.hdB_length]; rfl
  · rw [if_pos rfl, if_pos rfl, Six.allB6_length]; rfl
theorem dgU_rest (sv : Bool) (shi slo dhi dlo : Nat) (sp dp : Int) (xs : List UInt8) (hl : xs.length ≤ 4000) (h1 : 0 ≤ sp ∧ sp ≤ 65535) (h2 : 0 ≤ dp ∧ dp ≤ 65535) : (dgU sv shi slo dhi dlo sp dp xs).drop 8 = xs := by
  unfold dgU
  refine (Udp.dg_parse true _ sp.toNat dp.toNat xs ?_ (by omega) (by omega) (by omega)).2.2.2.2
  unfold aheadB
  split
  · rw [ps6_even]
  · simp [beB_length]
theorem sgU_rest (sv : Bool) (shi slo dhi dlo : Nat) (sp dp fl : Int) (xs : List UInt8) (h1 : 0 ≤ sp ∧ sp ≤ 65535) (h2 : 0 ≤ dp ∧ dp ≤ 65535) (h3 : 0 ≤ fl ∧ fl ≤ 255) : (sgU sv shi slo dhi dlo sp dp fl xs).drop 20 = xs := by
  unfold sgU
  refine (Tcp.sg_parse _ sp.toNat dp.toNat fl.toNat xs ?_ (by omega) (by omega) (by omega)).2.2.2.2.2
  unfold aheadB
  split
  · rw [ps6_even]
  · simp [beB_length]
end Pkt
end Go.Proofs.Ytfmmmjaficbchaa
