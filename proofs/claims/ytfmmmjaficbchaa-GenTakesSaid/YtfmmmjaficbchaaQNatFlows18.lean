/- Plain: datagrams and segments that were made can be turned. Conditions: numbers of their sizes, at most 4000 bytes. -/
import Derived.Test.YtfmmmjaficbchaaQNatFlows17
import Derived.Test.YtfmmmjaficbchaaQNatFlows16
import Derived.Test.YtfmmmjaficbchaaQNatFlows2
import Derived.Test.YtfmmmjaficbchaaQNatFlows15
import Derived.Test.YtfmmmjaficbchaaQNatFlows3
import Derived.Deep.DeepCutAuto
namespace Go.Proofs.Ytfmmmjaficbchaa
open Go.RowKit Go.ChangeShapes Go.WideShapes Go.ChangeAt Go.Deep
namespace Nat15
open Pkt (aheadB wrapB dgU sgU dgU_length sgU_length)
theorem turn_wrap4 (slo dlo ttl : Nat) (udp : Bool) (U : List UInt8) (n sp dp fl : Nat) (hn : 20 + U.length = n) (h1 : slo < 4294967296) (h2 : dlo < 4294967296) (ht : ttl ≤ 255) (hU : U.length ≤ 4096)
    (hup : Up false udp (aheadB false 0 slo 0 dlo (prN udp) U.length) U sp dp fl) : Turn4 n (wrapB false 0 slo 0 dlo (prN udp) ttl U) n 20 udp U slo dlo sp dp ttl fl := by
  have hw : wrapB false 0 slo 0 dlo (prN udp) ttl U = Four.hdB 0 0 0 ttl (prN udp) slo dlo [] U.length ++ U := by
    unfold wrapB
    rw [if_neg (by simp), Int.toNat_natCast]
  rw [hw]
  obtain ⟨xs, hxs⟩ : ∃ xs, Four.hdB 0 0 0 ttl (prN udp) slo dlo [] U.length ++ U = xs := ⟨_, rfl⟩
  have hlen : xs.length = 20 + U.length := by rw [← hxs, List.length_append, Four.hdB_length]; rfl
  have hpr : prN udp ≤ 255 := by rcases udp with _ | _ <;> decide
  obtain ⟨p1, p2, p3, p4, p5, p6, p7, p8, p9, p10, p11, p12, p13, p14, p15⟩ := Four.puts_get 0 0 0 ttl (prN udp) slo dlo [] U [] 0 U.length rfl rfl (by omega) (by omega) (by omega) ht hpr h1 h2 (by omega) (by omega) hU xs (by rw [List.append_nil]; exact hxs)
  rw [hxs]
  refine ⟨⟨by omega, by omega, p1, by omega, by omega, p4, by omega, by omega, ?_⟩, by omega, by omega, by omega, p10, ?_, p11, p12, p9, ?_⟩
  · rw [p2]; exact p5
  · rw [← hn]; exact p14
  · rw [← hn, Nat.add_sub_cancel_left]; exact hup
theorem turn_wrap6 (shi slo dhi dlo ttl : Nat) (udp : Bool) (U : List UInt8) (n sp dp fl : Nat) (hn : 40 + U.length = n) (h4 : shi < 18446744073709551616) (h5 : slo < 18446744073709551616) (h6 : dhi < 18446744073709551616) (h7 : dlo < 18446744073709551616) (ht : ttl ≤ 255) (hU : U.length ≤ 4096)
    (hup : Up true udp (aheadB true shi slo dhi dlo (prN udp) U.length) U sp dp fl) : Turn6 n (wrapB true shi slo dhi dlo (prN udp) ttl U) [] 40 udp U shi slo dhi dlo sp dp ttl fl := by
  have hw : wrapB true shi slo dhi dlo (prN udp) ttl U = Six.allB6 0 0 ttl shi slo dhi dlo (prN udp) [] U := by
    unfold wrapB
    rw [if_pos rfl, Int.toNat_natCast]
  rw [hw]
  obtain ⟨xs, hxs⟩ : ∃ xs, Six.allB6 0 0 ttl shi slo dhi dlo (prN udp) [] U = xs := ⟨_, rfl⟩
  have hlen : xs.length = 40 + U.length := by rw [← hxs, Six.allB6_length]; rfl
  have hpr : prN udp ≤ 255 := by rcases udp with _ | _ <;> decide
  have hib : Six.isB (prN udp : Int) = false := by rcases udp with _ | _ <;> decide
  have hr : Six.rightHB (0 : Nat) (0 : Nat) (ttl : Nat) true true (prN udp) [] = true := by
    rw [Six.rightHB_yes ⟨by omega, by omega, by omega, by omega, by omega, by omega, rfl, rfl, by omega, by omega, hib, by simp⟩]
    rfl
  obtain ⟨p1, p2, _, _, p5, p6, p7, p8, p9, p10, p11⟩ := Six.puts_parse 0 0 ttl shi slo dhi dlo (prN udp) [] U [] xs hr h4 h5 h6 h7 hU (by rw [List.append_nil]; exact hxs)
  rw [hlen, hn] at p1
  rw [hxs]
  exact ⟨⟨by omega, p1, p2⟩, rfl, by decide, by decide, p8, p9, p10, p11, p7, hup⟩
theorem aheadB_even (v6 : Bool) (a b c d e f : Nat) : (aheadB v6 a b c d e f).length % 2 = 0 := by
  unfold aheadB Six.pseudoB
  split <;> simp [beB_length, allB]
theorem up_dg (sv : Bool) (shi slo dhi dlo s d : Nat) (xs : List UInt8) (hs : s ≤ 65535) (hd : d ≤ 65535) (hl : xs.length ≤ 4000) : Up sv true (aheadB sv shi slo dhi dlo 17 (8 + xs.length)) (dgU sv shi slo dhi dlo s d xs) s d 0 := by
  obtain ⟨g1, g2, g3, g4, _⟩ := Udp.dg_parse (!sv) (aheadB sv shi slo dhi dlo 17 (8 + xs.length)) s d xs (aheadB_even _ _ _ _ _ _ _) hs hd (by omega)
  have w6 : whR true = 6 := rfl
  exact ⟨by unfold dgU; rw [Int.toNat_natCast, Int.toNat_natCast, g4]; omega, by rw [if_pos rfl]; exact g1, g2, g3, by rw [if_pos rfl]⟩
theorem up_sg (sv : Bool) (shi slo dhi dlo s d f : Nat) (xs : List UInt8) (hs : s ≤ 65535) (hd : d ≤ 65535) (hf : f ≤ 255) : Up sv false (aheadB sv shi slo dhi dlo 6 (20 + xs.length)) (sgU sv shi slo dhi dlo s d f xs) s d f := by
  obtain ⟨g1, g2, g3, g4, g5, _⟩ := Tcp.sg_parse (aheadB sv shi slo dhi dlo 6 (20 + xs.length)) s d f xs (aheadB_even _ _ _ _ _ _ _) hs hd hf
  have w16 : whR false = 16 := rfl
  exact ⟨by unfold sgU; rw [Int.toNat_natCast, Int.toNat_natCast, Int.toNat_natCast, g5]; omega, by rw [if_neg (by simp)]; exact g1, g2, g3, by rw [if_neg (by simp)]; exact g4.symm⟩
theorem turn_dg4 (slo dlo s d ttl : Nat) (xs : List UInt8) (n : Nat) (hn : 28 + xs.length = n) (h1 : slo < 4294967296) (h2 : dlo < 4294967296) (ht : ttl ≤ 255) (hs : s ≤ 65535) (hd : d ≤ 65535) (hl : xs.length ≤ 4000) :
    Turn4 n (wrapB false 0 slo 0 dlo 17 ttl (dgU false 0 slo 0 dlo s d xs)) n 20 true (dgU false 0 slo 0 dlo s d xs) slo dlo s d ttl 0 := by
  have hl2 := dgU_length false 0 slo 0 dlo s d xs
  refine turn_wrap4 slo dlo ttl true _ n s d 0 (by omega) h1 h2 ht (by omega) ?_
  rw [hl2]
  exact up_dg false 0 slo 0 dlo s d xs hs hd hl
theorem turn_dg6 (shi slo dhi dlo s d ttl : Nat) (xs : List UInt8) (n : Nat) (hn : 48 + xs.length = n) (h4 : shi < 18446744073709551616) (h5 : slo < 18446744073709551616) (h6 : dhi < 18446744073709551616) (h7 : dlo < 18446744073709551616) (ht : ttl ≤ 255) (hs : s ≤ 65535) (hd : d ≤ 65535) (hl : xs.length ≤ 4000) :
    Turn6 n (wrapB true shi slo dhi dlo 17 ttl (dgU true shi slo dhi dlo s d xs)) [] 40 true (dgU true shi slo dhi dlo s d xs) shi slo dhi dlo s d ttl 0 := by
  have hl2 := dgU_length true shi slo dhi dlo s d xs
  refine turn_wrap6 shi slo dhi dlo ttl true _ n s d 0 (by omega) h4 h5 h6 h7 ht (by omega) ?_
  rw [hl2]
  exact up_dg true shi slo dhi dlo s d xs hs hd hl
theorem turn_sg4 (slo dlo s d f ttl : Nat) (xs : List UInt8) (n : Nat) (hn : 40 + xs.length = n) (h1 : slo < 4294967296) (h2 : dlo < 4294967296) (ht : ttl ≤ 255) (hs : s ≤ 65535) (hd : d ≤ 65535) (hf : f ≤ 255) (hl : xs.length ≤ 4000) :
    Turn4 n (wrapB false 0 slo 0 dlo 6 ttl (sgU false 0 slo 0 dlo s d f xs)) n 20 false (sgU false 0 slo 0 dlo s d f xs) slo dlo s d ttl f := by
  have hl2 := sgU_length false 0 slo 0 dlo s d f xs
  refine turn_wrap4 slo dlo ttl false _ n s d f (by omega) h1 h2 ht (by omega) ?_
  rw [hl2]
  exact up_sg false 0 slo 0 dlo s d f xs hs hd hf
theorem turn_sg6 (shi slo dhi dlo s d f ttl : Nat) (xs : List UInt8) (n : Nat) (hn : 60 + xs.length = n) (h4 : shi < 18446744073709551616) (h5 : slo < 18446744073709551616) (h6 : dhi < 18446744073709551616) (h7 : dlo < 18446744073709551616) (ht : ttl ≤ 255) (hs : s ≤ 65535) (hd : d ≤ 65535) (hf : f ≤ 255) (hl : xs.length ≤ 4000) :
    Turn6 n (wrapB true shi slo dhi dlo 6 ttl (sgU true shi slo dhi dlo s d f xs)) [] 40 false (sgU true shi slo dhi dlo s d f xs) shi slo dhi dlo s d ttl f := by
  have hl2 := sgU_length true shi slo dhi dlo s d f xs
  refine turn_wrap6 shi slo dhi dlo ttl false _ n s d f (by omega) h4 h5 h6 h7 ht (by omega) ?_
  rw [hl2]
  exact up_sg true shi slo dhi dlo s d f xs hs hd hf
end Nat15
end Go.Proofs.Ytfmmmjaficbchaa
/- (pkt.Packet).Key and Opens by contract; a part of a struct is read. No condition. -/
namespace Go.Proofs.Ytfmmmjaficbchaa
open Go.RowKit Go.ChangeShapes Go.WideShapes Go.ChangeAt Go.Deep
theorem range_part {w : World} {g : Nat} {t : TypeId} {cs : Array Value} (h : w.heap[g]? = some (.cells cs t (0, 0))) (o n : Nat) (l : List Value) (hl : (cs.toList.drop o).take n = l) : w.rangeAt g o l := fun j v hv => by
  rw [blk_cell h (o + j)]
  rw [← hl, List.getElem?_take] at hv
  split at hv
  · rw [List.getElem?_drop] at hv
    simpa using hv
  · cases hv
namespace Pkt
def tuZ : Array Value := #[.int .i64 0, .bool false, .int .u64 0, .int .u64 0, .bool false, .int .u64 0, .int .u64 0, .int .i64 0, .int .i64 0]
theorem alloc_tu (o : Oper) (h : o.op = .alloc 32) (ρ : Operand → Value) (w : World) : (execOp ρ o).run Try.prog w = .ok (.value (.pointer (some ⟨w.heap.size, 0, none⟩))) (w.alloc (.cells tuZ 32)) := by
  obtain ⟨d, op, t, ps, af, g⟩ := o
  dsimp only at h
  subst h
  kernel_rfl
set_option maxRecDepth 20000 in
set_option maxHeartbeats 4000000 in
theorem eql_tu {op : Oper} (pr : Int) (sv : Bool) (shi slo : Int) (dv : Bool) (dhi dlo sp dp : Int) (ev : Operand → Value) (x y : Operand) (ho : op.op = .binOp .eql 32 x y 32) (hx : ev x = .agg (tuA pr sv shi slo dv dhi dlo sp dp)) (hy : ev y = .agg (tuA pr sv shi slo dv dhi dlo sp dp)) (w : World) :
    (execOp ev op).run Try.prog w = .ok (.value (.bool true)) w := by
  unfold execOp
  simp only [ho, hx, hy]
  clear hx hy ho
  unfold tuA
  simp [go_sem]
/-- The flow by which a packet is steered. -/
def keyA (er : Bool) (a b : Array Value) : Array Value := if er = true then b else a
section
variable (v6 : Bool) (pr : Int) (sv : Bool) (shi slo : Int) (dv : Bool) (dhi dlo sp dp ttl fl : Int) (er : Bool) (apr : Int) (asv : Bool) (ashi aslo : Int) (adv : Bool) (adhi adlo asp adp sz : Int)
end
theorem has_any (fl m : Int) (w : World) : Calls Try.prog 92 #[.agg #[.int .i64 0, .int .i64 0, .int .u32 0, .int .u32 0, .int .i64 fl, .int .i64 0, .int .i64 0, .slice none 0 0], .int .i64 m] w fun e w' => e = .returned (.bool (bits .and .i64 fl m == m)) ∧ Below w.heap.size w w' := by
  have hb := ((Below.refl w.heap.size w).alloc (Nat.le_refl _) (.cells #[.int .i64 0, .int .i64 0, .int .u32 0, .int .u32 0, .int .i64 fl, .int .i64 0, .int .i64 0, .slice none 0 0] 88))
  replace hb := hide hb
  go_enter Try.func92, Try.ntmps92
  go_wp2_with fail
  go_ret
  exact ⟨rfl, hb.out⟩
/-- Whether flags open a connection. -/
def opF (fl : Nat) : Bool := decide (fl / 2 % 2 = 1 ∧ fl % 2 = 0 ∧ fl / 4 % 2 = 0 ∧ fl / 16 % 2 = 0)
theorem opF_bits : ∀ fl : Fin 256, (((bits .and .i64 (fl.val : Int) 2 == 2) && (bits .and .i64 (fl.val : Int) 21 == 0)) = opF fl.val) := by decide +kernel
set_option maxRecDepth 20000 in
set_option maxHeartbeats 4000000 in
theorem topens_any (fl : Nat) (hfl : fl ≤ 255) (w : World) : Calls Try.prog 74 #[.agg #[.int .i64 0, .int .i64 0, .int .u32 0, .int .u32 0, .int .i64 (fl : Int), .int .i64 0, .int .i64 0, .slice none 0 0]] w fun e w' => e = .returned (.bool (opF fl)) ∧ Below w.heap.size w w' := by
  have hop := opF_bits ⟨fl, by omega⟩
  dsimp only at hop
  have hb := ((Below.refl w.heap.size w).alloc (Nat.le_refl _) (.cells #[.int .i64 0, .int .i64 0, .int .u32 0, .int .u32 0, .int .i64 (fl : Int), .int .i64 0, .int .i64 0, .slice none 0 0] 88))
  have hg := blk_new w 88 #[.int .i64 0, .int .i64 0, .int .u32 0, .int .u32 0, .int .i64 (fl : Int), .int .i64 0, .int .i64 0, .slice none 0 0]
  obtain ⟨w1, hw1⟩ : ∃ w1, w.alloc (.cells #[.int .i64 0, .int .i64 0, .int .u32 0, .int .u32 0, .int .i64 (fl : Int), .int .i64 0, .int .i64 0, .slice none 0 0] 88) = w1 := ⟨_, rfl⟩
  have hz1 : w.heap.size < w1.heap.size := by rw [← hw1]; simp
  rw [hw1] at hb hg
  have hc := blk_cell hg
  obtain ⟨b1, hb1⟩ : ∃ b1, (bits .and .i64 (fl : Int) 2 == 2) = b1 := ⟨_, rfl⟩
  obtain ⟨b2, hb2⟩ : ∃ b2, (bits .and .i64 (fl : Int) 21 == 0) = b2 := ⟨_, rfl⟩
  rw [hb1, hb2] at hop
  have hH := fun w : World => has_any (fl : Int) 2 w
  rw [hb1] at hH
  rw [← hop]
  replace hb := hide hb
  replace hg := hide hg
  replace hop := hide hop
  replace hH := hide hH
  replace hb1 := hide hb1
  go_enter Try.func74, Try.ntmps74
  go_wp2_with fail
  refine (hH.out _).mono ?_
  rintro e w2 ⟨rfl, hbb⟩
  have hc2 := blk_cell (blk_below hbb hz1 hg.out)
  have hB := hb.out.trans (hbb.mono hb.out.size)
  clear hw1 hc hbb
  replace hB := hide hB
  rcases b1 with _ | _
  · go_wp2_with fail
    go_ret
    exact ⟨rfl, hB.out⟩
  · go_wp2_with fail
    go_ret
    exact ⟨by simp [hb2], hB.out⟩
/-- Whether a packet opens a connection. -/
def opB (pr : Int) (fl : Nat) : Bool := (pr == 6) && opF fl
section
variable (v6 : Bool) (pr : Int) (sv : Bool) (shi slo : Int) (dv : Bool) (dhi dlo sp dp ttl : Int) (fl : Nat) (er : Bool) (apr : Int) (asv : Bool) (ashi aslo : Int) (adv : Bool) (adhi adlo asp adp sz : Int)
set_option maxRecDepth 20000 in
set_option maxHeartbeats 4000000 in
theorem opens_any (hfl : fl ≤ 255) (w : World) : Calls Try.prog 46 #[.agg (pkG v6 pr sv shi slo dv dhi dlo sp dp ttl fl er apr asv ashi aslo adv adhi adlo asp adp sz)] w fun e w' => e = .returned (.bool (opB pr fl)) ∧ Below w.heap.size w w' := by
  obtain ⟨cs, hcs⟩ : ∃ cs, pkG v6 pr sv shi slo dv dhi dlo sp dp ttl fl er apr asv ashi aslo adv adhi adlo asp adp sz = cs := ⟨_, rfl⟩
  have l1 : cs[1]? = some (.int .i64 pr) := hcs ▸ rfl
  have l2 : cs[11]? = some (.int .i64 (fl : Int)) := hcs ▸ rfl
  rw [hcs]
  clear hcs
  have hb := ((Below.refl w.heap.size w).alloc (Nat.le_refl _) (.cells cs 34))
  have hg := blk_new w 34 cs
  obtain ⟨w1, hw1⟩ : ∃ w1, w.alloc (.cells cs 34) = w1 := ⟨_, rfl⟩
  rw [hw1] at hb hg
  have hc1 := (blk_cell hg 1).trans l1
  have hc2 := (blk_cell hg 11).trans l2
  have hT := fun w : World => topens_any fl hfl w
  unfold opB
  clear l1 l2
  replace hb := hide hb
  replace hg := hide hg
  replace hT := hide hT
  by_cases h : pr = 6
  · subst h
    go_enter Try.func46, Try.ntmps46
    go_wp2_with fail
    refine (hT.out _).mono ?_
    rintro e w2 ⟨rfl, hbb⟩
    have hB := hb.out.trans (hbb.mono hb.out.size)
    clear hw1 hc1 hc2 hbb
    replace hB := hide hB
    go_wp2_with fail
    go_ret
    exact ⟨by simp, hB.out⟩
  · have t : (pr == 6) = false := by simpa using h
    rw [t]
    go_enter Try.func46, Try.ntmps46
    go_wp2_with fail
    go_ret
    exact ⟨rfl, hb.out⟩
end
end Pkt
end Go.Proofs.Ytfmmmjaficbchaa
/- nat.place by contract: where an address lies in a packet, and where its header ends. Conditions: a slice of bytes that reads as a packet. -/
namespace Go.Proofs.Ytfmmmjaficbchaa
open Go.RowKit Go.ChangeShapes Go.WideShapes Go.ChangeAt Go.Deep
namespace Nat15
/-- Where an address lies, how long it is, and where its header ends. -/
def placeV (at_ size e : Nat) : Value := .tuple #[.int .i64 (at_ : Int), .int .i64 (size : Int), .int .i64 (e : Int)]
set_option maxRecDepth 20000 in
set_option maxHeartbeats 4000000 in
theorem place4 (n : Nat) (xs : List UInt8) (hx0 : (xs.getD 0 0).toNat / 16 = 4) (hn : 20 ≤ n) (s : Nat) (hs : s ≤ 1) (e : Nat) (he : (xs.getD 0 0).toNat % 16 * 4 = e) (A : Option Addr) (c : Nat) (w : World) (hx : IsB w w.heap.size A n xs) :
    Calls Try.prog 31 #[.slice A n c, .int .i64 (s : Int)] w fun en w' => en = .returned (placeV (12 + 4 * s) 4 e) ∧ Below w.heap.size w w' := by
  obtain ⟨b, off, v0, rfl, hbl, hv0, hv0l, hc0⟩ := hx.byte (i := 0) (by omega)
  rw [Nat.add_zero] at hc0
  rw [hv0] at hx0 he
  have t1 : (((v0 : Int) / 16) == 4) = true := by rw [beq_iff_eq]; omega
  have i0 : 0 < n := by omega
  have q1 : IntKind.i64.wrap (4 * (s : Int)) = 4 * (s : Int) := wraps62 _ (by omega) (by omega)
  have q2 : IntKind.i64.wrap (12 + 4 * (s : Int)) = 12 + 4 * (s : Int) := wraps62 _ (by omega) (by omega)
  have q4 : bits .and .u8 (v0 : Int) 15 = (v0 : Int) % 16 := u8_and15 (v0 : Int) (by omega) (by omega)
  have q5 : IntKind.i64.wrap ((v0 : Int) % 16) = (v0 : Int) % 16 := wraps62 _ (by omega) (by omega)
  have q3 : IntKind.i64.wrap ((v0 : Int) % 16 * 4) = (v0 : Int) % 16 * 4 := wraps62 _ (by omega) (by omega)
  have hc0L := fun l : Later w => l.cell hc0
  have hfin : placeV (12 + 4 * s) 4 e = .tuple #[.int .i64 (12 + 4 * (s : Int)), .int .i64 4, .int .i64 ((v0 : Int) % 16 * 4)] := by
    unfold placeV
    rw [show ((12 + 4 * s : Nat) : Int) = 12 + 4 * (s : Int) by omega, show (e : Int) = (v0 : Int) % 16 * 4 by omega]
    rfl
  rw [hfin]
  clear hfin he
  replace hx := hide hx
  replace hv0 := hide hv0
  replace hx0 := hide hx0
  go_enter Try.func31, Try.ntmps31
  go_wp2_with fail
  clear hc0
  refine wp_region_L (by as_aux_lemma => kernel_rfl) ?_
  refine wpE_seg 0 12 (fuel := 0) (by as_aux_lemma => kernel_rfl) (fun d _ _ _ _ h => by cases d <;> exact h) (by as_aux_lemma => kernel_rfl) (by as_aux_lemma => kernel_rfl) ?_
  simp only [List.drop_zero, List.take_succ_cons, List.take_zero]
  iterate 12 (refine wpQE_step (fun K hK => ?_); go_simp; refine hK _ ?_; clear hK K)
  refine wpQE_nil ?_
  refine wpE_done (by as_aux_lemma => kernel_rfl) (fun w5 hb5 => ?_) 0
  clear hc0L
  replace hb5 := hide hb5
  go_wp2_with fail
  go_ret3
  exact ⟨by rfl, hb5.out⟩
set_option maxRecDepth 20000 in
set_option maxHeartbeats 4000000 in
theorem place6 (n : Nat) (xs : List UInt8) (cl la ho : Int) (b1 : Bool) (sh sl : Int) (b2 : Bool) (dh dl : Int) (acc : List (Int × List UInt8)) (nx m1 : Nat) (rest : List UInt8) (hS : Tun.SixIs n xs 0 cl la ho b1 sh sl b2 dh dl acc nx m1 rest) (hal : acc.length ≤ 8) (hall : ∀ e ∈ acc, e.2.length ≤ 2047)
    (hx0 : (xs.getD 0 0).toNat / 16 ≠ 4) (hn : 40 ≤ n) (s : Nat) (hs : s ≤ 1) (e : Nat) (he : 40 + Six.sumP acc = e) (hen : e ≤ 65535) (A : Option Addr) (c : Nat) (w : World) (hx : IsB w w.heap.size A n xs) (hnc : n ≤ c) (hcm : c ≤ maxLen) :
    Calls Try.prog 31 #[.slice A n c, .int .i64 (s : Int)] w fun en w' => en = .returned (placeV (8 + 16 * s) 16 e) ∧ Below w.heap.size w w' := by
  obtain ⟨b, off, v0, rfl, hbl, hv0, hv0l, hc0⟩ := hx.byte (i := 0) (by omega)
  rw [Nat.add_zero] at hc0
  rw [hv0] at hx0
  have t1 : (((v0 : Int) / 16) == 4) = false := by rw [beq_eq_false_iff_ne]; omega
  have i0 : (0 : Int) < (n : Int) := by omega
  have hfin : placeV (8 + 16 * s) 16 e = .tuple #[.int .i64 (8 + 16 * (s : Int)), .int .i64 16, .int .i64 (e : Int)] := by
    unfold placeV
    rw [show ((8 + 16 * s : Nat) : Int) = 8 + 16 * (s : Int) by omega]
    rfl
  rw [hfin]
  clear hfin
  replace hx := hide hx
  replace hv0 := hide hv0
  replace hx0 := hide hx0
  replace hS := hide hS
  replace hal := hide hal
  replace hall := hide hall
  replace he := hide he
  go_enter Try.func31, Try.ntmps31
  go_wp2_with fail
  clear hc0
  refine (hS.out _ c _ hx.out hnc hcm).mono ?_
  rintro en w2 ⟨X, m, xc, A2, c2, es, rfl, hpe, hX, hmx, hxm, hr, hm2, hc2, hb2⟩
  obtain ⟨wa, hwa⟩ : ∃ wa, w2.alloc (Six.hdC cl la ho b1 sh sl b2 dh dl X m xc nx) = wa := ⟨_, rfl⟩
  have hba : Below w2.heap.size w2 wa := hwa ▸ (Below.refl _ _).alloc (Nat.le_refl _) _
  have hga := hwa ▸ blk_new w2 98 #[.int .i64 cl, .int .i64 la, .int .i64 ho, .bool b1, .int .u64 sh, .int .u64 sl, .bool b2, .int .u64 dh, .int .u64 dl, .slice X m xc, .int .i64 nx]
  have hB := hb2.trans (hba.mono hb2.size)
  have hcl := blk_cell hga
  unfold Six.hdC at hwa
  have hXa := hX.on hba
  have hm8 : m ≤ 8 := by rw [← hX.1, ← Six.pes_length, hpe]; exact hal.out
  have hes : ∀ e ∈ es, e.xs.length ≤ 2047 := fun e he => hall.out (Six.Ext.pe e) (hpe ▸ (List.mem_map_of_mem he : Six.Ext.pe e ∈ Six.pes es))
  have hT0 : 40 + Six.sumL es = e := by rw [Six.sumL_pes, hpe]; exact he.out
  clear hr hba hb2 hga
  replace hpe := hide hpe
  replace hes := hide hes
  replace hT0 := hide hT0
  replace hX := hide hX
  replace hXa := hide hXa
  replace hB := hide hB
  go_wp2_with fail
  clear hwa hcl
  refine (Six.len_any cl la ho b1 sh sl b2 dh dl X m xc nx es _ hXa.out hm8 hes.out e hT0.out).mono ?_
  rintro e w3 ⟨rfl, hb3⟩
  replace hB := hide (hB.out.trans (hb3.mono hB.out.size))
  clear hb3
  go_wp2_with fail
  go_ret3
  exact ⟨by rfl, hB.out⟩
end Nat15
end Go.Proofs.Ytfmmmjaficbchaa
/- nat.Turn by contract. Conditions: a slice of bytes that reads as a packet. -/
namespace Go.Proofs.Ytfmmmjaficbchaa
open Go.RowKit Go.ChangeShapes Go.WideShapes Go.ChangeAt Go.Deep
namespace Nat15
open Pkt (InEnd End2 pkZ IsG pkG alloc_pk size_pk pkZ_size pkZ_one PIs pkA pkA_one)
theorem ad_one (v : Bool) (a b : Int) : (#[.bool v, .int .u64 a, .int .u64 b] : Array Value).all (·.oneCell') = true := all_oneCell_toArray (by
  intro v hv
  simp only [List.mem_cons, List.not_mem_nil, or_false] at hv
  rcases hv with rfl | rfl | rfl <;> rfl)
/-- The builtin copy into a row of the call's own, as the one step that may come up. -/
theorem wpT_copy_b {md : Region.Mode} {Q : Exit → Act → World → Prop} {o : Oper} {rest : List Oper} {a : Act} {w : World} (i : Nat) {L : List Oper} {fuel : Nat} {listed : Array Bool} (hd0 : L.drop i = o :: rest) (hrd : Region.ready md L.toArray listed = [i]) (hgd : o.guard = none) (d s : Operand)
    (ho : o.op = .call { callee := .builtin .copy, args := #[d, s], argTypes := #[22, 22] }) (base g n c p dl dc m sc B k : Nat) (A : Option Addr) (xs ys : List UInt8)
    (hd : a.eval d = .slice (some ⟨g, p, none⟩) dl dc) (hs : a.eval s = .slice A m sc) (hown : OwnB w base (.slice (some ⟨g, 0, none⟩) n c) xs) (hr : IsB w B A m ys) (hp : p + dl ≤ n) (h0 : 0 < n) (hk : min m dl = k)
    (h : ∀ w', OwnB w' base (.slice (some ⟨g, 0, none⟩) n c) (setB xs p (ys.take k)) → Below g w w' → wpAny Try.prog md L.toArray Q fuel (listed.setIfInBounds i true) (a.put o.dst (goInt k)) w') : wpAny Try.prog md L.toArray Q (fuel + 1) listed a w := by
  obtain ⟨g', cur, hg', hb, hh, hcl, htk, hn, hm, hl⟩ := hown.row h0
  cases hg'
  have hkl : (ys.take k).length = k := by rw [List.length_take, hr.1]; omega
  have hkl' : ((ys.take k).map u8v).length = k := by rw [List.length_map, hkl]
  refine wpT_step i hd0 hrd fun K hK => ?_
  refine step_copy_splice hgd d s _ _ ho 5 Try.underlying22 (by kernel_rfl) _ _ _ _ _ _ hd hs g p cur 5 hh ((ys.take k).map u8v) ?_ ?_ ?_ (u8v_one _) g w (Below.refl _ _) (Nat.le_refl _) ?_
  · rw [hkl', ← hk]
  · intro h1
    rw [hkl'] at h1
    obtain ⟨b2, off2, rfl, _, hcs2⟩ := hr.vals.2 (by omega)
    refine ⟨rfl, _, rfl, fun j v hj => ?_⟩
    obtain ⟨hj', rfl⟩ := List.getElem?_eq_some_iff.1 hj
    rw [hkl'] at hj'
    rw [show Addr.add ⟨b2, off2, none⟩ j = (⟨b2, off2 + j, none⟩ : Addr) by unfold Addr.add; split <;> simp_all]
    rw [hcs2 j (by rw [List.length_map, hr.1]; omega)]
    simp
  · rw [hkl', hcl]; omega
  intro w' hh' hb'
  rw [hkl']
  refine hK _ _ (h w' (own_of_row hb hh'.out ?_ (splice_take cur xs (ys.take k) n p htk (by rw [hcl]; exact hn) hl (by rw [hkl]; omega)) hn hm (by rw [setB_length _ _ _ (by rw [hkl, hl]; omega), hl])) hb')
  rw [length_splice _ _ _ (by rw [hkl', hcl]; omega), hcl]
set_option maxRecDepth 20000 in
set_option maxHeartbeats 8000000 in
theorem turn_any (v6 udp : Bool) (n c T p L e s : Nat) (xs : List UInt8) (shi slo dhi dlo sp dp ttl fl thi tlo port whi wlo wp : Nat) (A : Option Addr) (w : World) (hx : IsB w w.heap.size A n xs) (hnc : n ≤ c) (hcm : c ≤ maxLen) (hn : n ≤ 4000) (hs : s ≤ 1)
    (hP : PIs n xs 0 (pkA v6 (prN udp) shi slo dhi dlo sp dp ttl fl T))
    (hPl : ∀ w : World, IsB w w.heap.size A n xs → Calls Try.prog 31 #[.slice A n c, .int .i64 (s : Int)] w fun en w' => en = .returned (placeV p L e) ∧ Below w.heap.size w w')
    (hok : Four.okA v6 (thi : Int) (tlo : Int) = true) (h1 : thi < 18446744073709551616) (h2 : tlo < 18446744073709551616) (hport : port ≤ 65535) (hsp : sp ≤ 65535) (hdp : dp ≤ 65535)
    (b1 : shi < 18446744073709551616) (b2 : slo < 18446744073709551616) (b3 : dhi < 18446744073709551616) (b4 : dlo < 18446744073709551616)
    (hwhi : (if s = 0 then shi else dhi) = whi) (hwlo : (if s = 0 then slo else dlo) = wlo) (hwp : (if s = 0 then sp else dp) = wp)
    (hT : T ≤ n) (hpL : p + L ≤ e) (hL : (addrB v6 thi tlo).length = L) (hL0 : 0 < L) (heT : e + whR udp + 2 ≤ T) (h4 : 12 ≤ e) :
    Calls Try.prog 11 #[.slice A n c, .int .i64 (s : Int), .agg #[.bool v6, .int .u64 (thi : Int), .int .u64 (tlo : Int)], .int .i64 (port : Int)] w fun en w' =>
      InEnd 0 (out5 udp (out3 v6 (out2 xs T p e s port (addrB v6 thi tlo)) (addrW v6 whi wlo) (addrW v6 thi tlo)) (e + whR udp) wp port (addrW v6 whi wlo) (addrW v6 thi tlo)) w w' en := by
  obtain ⟨w1, hw1⟩ : ∃ w1, w.alloc (.cells #[.bool v6, .int .u64 (thi : Int), .int .u64 (tlo : Int)] 26) = w1 := ⟨_, rfl⟩
  have hB : Below w.heap.size w w1 := hw1 ▸ (Below.refl _ _).alloc (Nat.le_refl _) _
  have hg : w1.heap[w.heap.size]? = some (.cells #[.bool v6, .int .u64 (thi : Int), .int .u64 (tlo : Int)] 26 (0, 0)) := hw1 ▸ blk_new _ _ _
  obtain ⟨U, hU⟩ : ∃ U, out5 udp (out3 v6 (out2 xs T p e s port (addrB v6 thi tlo)) (addrW v6 whi wlo) (addrW v6 thi tlo)) (e + whR udp) wp port (addrW v6 whi wlo) (addrW v6 thi tlo) = U := ⟨_, rfl⟩
  rw [hU]
  have bw1 : whi < 18446744073709551616 := by rw [← hwhi]; split; exact b1; exact b3
  have bw2 : wlo < 18446744073709551616 := by rw [← hwlo]; split; exact b2; exact b4
  have bwp : wp ≤ 65535 := by rw [← hwp]; split; exact hsp; exact hdp
  have hwh : whR udp ≤ 16 := by unfold whR; split <;> omega
  have hwh6 : 6 ≤ whR udp := by unfold whR; split <;> omega
  obtain ⟨y, hy⟩ : ∃ y, pkA v6 (prN udp) shi slo dhi dlo sp dp ttl fl T = y := ⟨_, rfl⟩
  rw [hy] at hP
  have hys : y.size = 23 := hy ▸ rfl
  have hyo : y.all (·.oneCell') = true := hy ▸ pkA_one _ _ _ _ _ _ _ _ _ _ _
  have hq17 : ((prN udp : Int) == 17) = udp := by rcases udp with _ | _ <;> rfl
  have p1 : (port : Int) ≤ 65535 := by omega
  have p2 : (0 : Int) ≤ (port : Int) := by omega
  replace hx := hx.on hB
  replace bw1 := hide bw1
  replace bw2 := hide bw2
  replace hx := hide hx
  replace hP := hide hP
  replace hPl := hide hPl
  replace hok := hide hok
  replace hU := hide hU
  replace hys := hide hys
  replace hyo := hide hyo
  replace hy := hide hy
  replace hwhi := hide hwhi
  replace hwlo := hide hwlo
  replace hwp := hide hwp
  replace hL := hide hL
  replace h1 := hide h1
  replace h2 := hide h2
  replace b1 := hide b1
  replace b2 := hide b2
  replace b3 := hide b3
  replace b4 := hide b4
  replace hwh := hide hwh
  replace hwh6 := hide hwh6
  replace hT := hide hT
  replace hpL := hide hpL
  replace heT := hide heT
  replace hB := hide hB
  replace hg := hide hg
  replace hx := hide hx
  go_enter Try.func11, Try.ntmps11
  go_upto_region 1 with fail
  apply wp_region_lit
  clear hw1
  iterate 1 (refine wpList_plain rfl fun K hK => ?_; go_simp; refine hK _ _ ?_; clear hK K)
  refine wpList_plain rfl fun K hK => ?_
  go_simp
  refine (hP.out _ c _ hx.out hnc hcm).mono ?_
  rintro e w2 hE
  obtain ⟨rfl, hb2⟩ := hE
  rw [if_pos rfl]
  replace hB := hide (hB.out.trans (hb2.mono hB.out.size))
  replace hg := hide (blk_on hb2 hg.out)
  replace hx := hide (hx.out.on hb2)
  clear hb2
  go_simp
  refine hK _ _ ?_
  clear hK K
  iterate 3 (refine wpList_plain rfl fun K hK => ?_; go_simp; refine hK _ _ ?_; clear hK K)
  refine wpl_new rfl rfl 34 _ (alloc_pk _ rfl) 10 rfl (.tmp 22) rfl _ (fun _ => rfl) (fun _ => rfl) (by rw [pkZ_size]; exact hys.out) (by rw [size_pk, hys.out]) hyo.out ?_
  intro w3 hg3 hb3 hz3
  have zg := blk_lt hg.out
  have z2 := hB.out.size
  replace hB := hide (hB.out.trans (hb3.mono hB.out.size))
  replace hg := hide (blk_on hb3 hg.out)
  replace hx := hide (hx.out.on hb3)
  clear hb3
  replace hg3 := hide hg3
  iterate 1 (refine wpList_plain rfl fun K hK => ?_; go_simp; refine hK _ _ ?_; clear hK K)
  refine wpList_nil ?_
  go_upto_region 4 with fail
  have hgy := hg3.out
  rw [← hy.out] at hgy
  unfold pkA at hgy
  have hcy := blk_cell hgy
  have hca := blk_cell hg.out
  go_cut [28] (fun bv wx => bv = .bool false ∧ w3 = wx)
  case first =>
    have h01 : s = 0 ∨ s = 1 := by omega
    clear hgy
    rcases h01 with rfl | rfl
    · go_wp2_with fail
      go_meet
      refine ⟨?_, rfl⟩
      congr 1
      simp only [Bool.or_eq_false_iff, decide_eq_false_iff_not]
      omega
    · go_wp2_with fail
      go_meet
      refine ⟨?_, rfl⟩
      congr 1
      simp only [Bool.or_eq_false_iff, decide_eq_false_iff_not]
      omega
  case rest =>
  obtain ⟨rfl, rfl⟩ := hcut
  go_upto_region 6 with fail
  have hne : (v6 != v6) = false := by simp
  clear hgy
  go_wp2_with fail
  clear hcy hca
  refine (Four.addr_right v6 thi tlo true _ hok.out).mono ?_
  rintro e w5 ⟨rfl, hb5⟩
  replace hB := hide (hB.out.trans (hb5.mono hB.out.size))
  replace hg := hide (blk_on hb5 hg.out)
  replace hx := hide (hx.out.on hb5)
  replace hg3 := hide (blk_on hb5 hg3.out)
  clear hb5
  go_upto_region 8 with fail
  have hgy := hg3.out
  rw [← hy.out] at hgy
  unfold pkA at hgy
  have zy := blk_lt hgy
  refine wp_region_S w5.heap.size (fun _ => False) (by as_aux_lemma => kernel_rfl) ?_
  intro wd hbd
  have hgyd := blk_below hbd zy hgy
  have hcyL := fun (l : KeptSW w5.heap.size (fun _ => False) wd) (o : Nat) => blk_cell (l.blk hgyd zy (fun h => h)) o
  clear hgy
  have z5 := hbd.size
  refine wpS_seg w5.heap.size (fun _ => False) 0 6 (fuel := 3) (by as_aux_lemma => kernel_rfl) (fun d _ _ _ _ h => by cases d <;> exact h) (by as_aux_lemma => kernel_rfl) (by as_aux_lemma => kernel_rfl) ?_
  simp only [List.drop_zero, List.take_succ_cons, List.take_zero]
  iterate 6 (refine wpQS_step (fun K hK => ?_); go_simp; refine hK _ ?_; clear hK K)
  refine wpQF_nil ?_
  clear hcyL hgyd
  have hbl : Below w5.heap.size wd (wd.alloc (.cells #[.bool false, .int .u64 0, .int .u64 0] 26)) := (Below.refl _ _).alloc z5 _
  have hgw := blk_new wd 26 #[.bool false, .int .u64 0, .int .u64 0]
  refine wpF_step 6 rfl (by as_aux_lemma => kernel_rfl) (fun K hK => ?_)
  go_simp
  refine hK _ _ (keptS_of_below hbl (Nat.le_refl _)) ?_
  clear hK K
  change wpF _ _ _ _ _ _ _ _ (wd.alloc (.cells #[.bool false, .int .u64 0, .int .u64 0] 26))
  generalize wd.alloc (.cells #[.bool false, .int .u64 0, .int .u64 0] 26) = w6 at hbl hgw ⊢
  have zw6 := blk_lt hgw
  refine wpF_st 7 rfl (by as_aux_lemma => kernel_rfl) rfl 26 (.tmp 12) (.tmp 60) rfl wd.heap.size 0 rfl #[.bool v6, .int .u64 (shi : Int), .int .u64 (slo : Int)] rfl hgw (show 0 + 3 ≤ 3 by omega) (by kernel_rfl) (ad_one _ _ _) fun w7 hg7 g7 => ?_
  rw [putA_whole #[.bool false, .int .u64 0, .int .u64 0] #[.bool v6, .int .u64 (shi : Int), .int .u64 (slo : Int)] rfl] at hg7
  have hb67 : Below w5.heap.size w6 w7 := below_grown g7 (by omega) z5
  have hb7 : Below w5.heap.size w5 w7 := (hbd.trans hbl).trans hb67
  refine ⟨keptS_of_below hb67 (Nat.le_refl _), ?_⟩
  have zw7 := blk_lt hg7
  generalize wd.heap.size = gw at hg7 zw7 z5 ⊢
  have zgy : w2.heap.size ≠ gw := by omega
  have hgy7 := blk_below hb7 zy hg3.out
  clear g7 hgw hbl hb67 zw6
  replace hg7 := hide hg7
  replace hb7 := hide hb7
  replace hgy7 := hide hgy7
  refine wpF_step 8 rfl (by as_aux_lemma => kernel_rfl) (fun K hK => ?_)
  go_simp
  refine hK _ _ (keptS_refl _ _ _) ?_
  clear hK K
  refine wpF_done (by as_aux_lemma => kernel_rfl) ?_ 0
  go_upto_if 65 with fail
  go_cut [12, 13] (fun gv wv wx => ∃ gw, gv = .pointer (some ⟨gw, 0, none⟩) ∧ wv = .int .i64 (wp : Int) ∧ wx.heap[gw]? = some (.cells #[.bool v6, .int .u64 (whi : Int), .int .u64 (wlo : Int)] 26 (0, 0)) ∧ w5.heap.size ≤ gw ∧ Below w5.heap.size w5 wx)
  case first =>
    have h01 : s = 0 ∨ s = 1 := by omega
    rcases h01 with rfl | rfl
    · obtain rfl : slo = wlo := hwlo.out
      obtain rfl : shi = whi := hwhi.out
      obtain rfl : sp = wp := hwp.out
      go_wp2_with fail
      go_meet
      exact ⟨gw, rfl, rfl, hg7.out, z5, hb7.out⟩
    · obtain rfl : dlo = wlo := hwlo.out
      obtain rfl : dhi = whi := hwhi.out
      obtain rfl : dp = wp := hwp.out
      go_upto_region 10 with fail
      have hgy := hgy7.out
      rw [← hy.out] at hgy
      unfold pkA at hgy
      refine wp_region_S w7.heap.size (fun k => k = gw) (by as_aux_lemma => kernel_rfl) ?_
      intro we hbe
      have hgye := blk_below hbe (blk_lt hgy) hgy
      have hg7e := blk_below hbe zw7 hg7.out
      have hcyL := fun (l : KeptSW w7.heap.size (fun k => k = gw) we) (o : Nat) => blk_cell (l.blk hgye (blk_lt hgy) (fun h => zgy h)) o
      have z7 := hbe.size
      have zb7 := hb7.out.size
      clear hgy
      refine wpS_seg w7.heap.size (fun k => k = gw) 0 6 (fuel := 2) (by as_aux_lemma => kernel_rfl) (fun d _ _ _ _ h => by cases d <;> exact h) (by as_aux_lemma => kernel_rfl) (by as_aux_lemma => kernel_rfl) ?_
      simp only [List.drop_zero, List.take_succ_cons, List.take_zero]
      iterate 6 (refine wpQS_step (fun K hK => ?_); go_simp; refine hK _ ?_; clear hK K)
      refine wpQF_nil ?_
      clear hcyL hgye
      refine wpF_st 6 rfl (by as_aux_lemma => kernel_rfl) rfl 26 (.tmp 12) (.tmp 68) rfl gw 0 rfl #[.bool v6, .int .u64 (dhi : Int), .int .u64 (dlo : Int)] rfl hg7e (show 0 + 3 ≤ 3 by omega) (by kernel_rfl) (ad_one _ _ _) fun w8 hg8 g8 => ?_
      rw [putA_whole #[.bool v6, .int .u64 (shi : Int), .int .u64 (slo : Int)] #[.bool v6, .int .u64 (dhi : Int), .int .u64 (dlo : Int)] rfl] at hg8
      have hb8 : Below w5.heap.size w5 w8 := (hb7.out.trans (hbe.mono zb7)).trans (below_grown g8 (by omega) z5)
      refine ⟨Pkt.keptS_grown1 g8 z7 rfl, ?_⟩
      clear g8 hg7e
      replace hg8 := hide hg8
      replace hb8 := hide hb8
      refine wpF_step 7 rfl (by as_aux_lemma => kernel_rfl) (fun K hK => ?_)
      go_simp
      refine hK _ _ (keptS_refl _ _ _) ?_
      clear hK K
      refine wpF_done (by as_aux_lemma => kernel_rfl) ?_ 0
      go_wp2_with fail
      go_meet
      exact ⟨gw, rfl, rfl, hg8.out, z5, hb8.out⟩
  case rest =>
  obtain ⟨gv, rfl, rfl, hgv, zv, hb9⟩ := hcut
  clear hg7 hb7 hgy7 zgy zw7 z5 zy
  have zgw := blk_lt hg.out
  replace hB := hide (hB.out.trans (hb9.mono hB.out.size))
  replace hg := hide (blk_on hb9 hg.out)
  replace hx := hide (hx.out.on hb9)
  replace hg3 := hide (blk_on hb9 hg3.out)
  clear hb9
  replace hgv := hide hgv
  go_wp2_with fail
  refine (hPl.out _ hx.out).mono ?_
  rintro e w10 ⟨rfl, hb10⟩
  replace hB := hide (hB.out.trans (hb10.mono hB.out.size))
  replace hg := hide (blk_on hb10 hg.out)
  replace hx := hide (hx.out.on hb10)
  replace hg3 := hide (blk_on hb10 hg3.out)
  replace hgv := hide (blk_on hb10 hgv.out)
  clear hb10
  unfold placeV
  have hgy := hg3.out
  rw [← hy.out] at hgy
  unfold pkA at hgy
  have hcy := blk_cell hgy
  clear hgy
  have hi10 := hx.out.take (m := T) hT.out
  have l1 : (T : Int) ≤ (c : Int) := by have := hT.out; omega
  go_wp2_with (at_builtin; refine wpl_src_bv rfl _ (.tmp 82) rfl w10.heap.size (.slice none 0 0) [] (xs.take T) A T c w10.heap.size rfl rfl (OwnB.nil _ _) hi10 (Nat.le_refl _) ?_ ?_)
  · have := hT.out; simp; omega
  intro v11 w11 hown11 hg11
  have hb11 := hg11.belowNil
  have z10 := hB.out.size
  obtain ⟨A11, c11, rfl, hc11, hm11, hi11⟩ := hown11.form
  have tl : (xs.take T).length = T := by rw [List.length_take, hx.out.1]; have := hT.out; omega
  rw [tl] at hown11 hi11 hc11 ⊢
  clear hg11 hcy l1 hi10
  clear hx
  replace hown11 := hide hown11
  replace hi11 := hide hi11
  replace hb11 := hide hb11
  obtain ⟨AB, hAB⟩ : ∃ AB, addrB v6 thi tlo = AB := ⟨_, rfl⟩
  have hABl : AB.length = L := by rw [← hAB]; exact hL.out
  have hpT : p + L ≤ T := by have := hpL.out; have := heT.out; omega
  obtain ⟨g11, cur11, rfl, hgb11, hgh11, -⟩ := hown11.out.row (by have := heT.out; omega)
  clear hgh11
  have zg11 := blk_lt hg.out
  have hga11 := blk_below hb11.out zg11 hg.out
  obtain ⟨pL, hpLe⟩ : ∃ pL, p + L = pL := ⟨_, rfl⟩
  have hTn : T ≤ n := hT.out
  have q0 : IntKind.i64.wrap ((p : Int) + (L : Int)) = (pL : Int) := by rw [wraps62 _ (by omega) (by omega)]; omega
  have q1 : (0 : Int) ≤ (pL : Int) := by omega
  have q2 : (pL : Int) ≤ (c11 : Int) := by omega
  have q3 : p ≤ pL := by omega
  have q4 : ¬ (c11 = p) := by omega
  have q5 : pL - p = L := by omega
  have hcaL := fun (l : Later w11) (o : Nat) => blk_cell (blk_below l.hb (blk_lt hga11) hga11) o
  clear hga11
  replace hAB := hide hAB
  replace hABl := hide hABl
  go_upto_region 13 with fail
  refine wp_region_L (by as_aux_lemma => kernel_rfl) ?_
  refine wpE_seg 0 7 (fuel := 2) (by as_aux_lemma => kernel_rfl) (fun d _ _ _ _ h => by cases d <;> exact h) (by as_aux_lemma => kernel_rfl) (by as_aux_lemma => kernel_rfl) ?_
  simp only [List.drop_zero, List.take_succ_cons, List.take_zero]
  iterate 7 (refine wpQE_step (fun K hK => ?_); go_simp; refine hK _ ?_; clear hK K)
  refine wpQE_nil ?_
  clear hcaL
  refine wpE_step 7 (fuel := 1) rfl (by as_aux_lemma => kernel_rfl) (fun l K hK => ?_)
  go_simp
  go_at_call 32
  refine (addrBytes_any v6 thi tlo _ h1.out h2.out).mono ?_
  rintro en w12 ⟨v12, rfl, hown12, hb12⟩
  rw [hAB.out] at hown12
  refine hK _ _ hb12 ?_
  clear hK K
  refine wpE_end (by as_aux_lemma => kernel_rfl) (fun l2 => ?_)
  have zl := l.hb.size
  have z12 := hb12.size
  obtain ⟨A12, c12, rfl, hc12, hm12, hi12⟩ := hown12.form
  rw [hABl.out] at hi12 hc12 ⊢
  have hBl : Below w11.heap.size w11 l2.w := (l.hb.trans (hb12.mono zl)).trans (l2.hb.mono (by omega))
  have hownl := hown11.out.below hBl
  have hil := hi12.on l2.hb
  refine wpT_copy_b 8 rfl (by as_aux_lemma => kernel_rfl) rfl (.tmp 89) (.tmp 91) rfl w10.heap.size g11 T c11 p L (c11 - p) L c12 _ L A12 (xs.take T) AB rfl rfl hownl hil (by omega) (by omega) (by omega) fun w13 hown13 hb13 => ?_
  have hb1013 : Below w10.heap.size w10 w13 := (hb11.out.trans (hBl.mono hb11.out.size)).trans (hb13.mono hgb11)
  rw [List.take_of_length_le (l := AB) (by rw [hABl.out]; omega)] at hown13
  clear hownl hil hi12 hown12 hb12 hb13 hBl hown11 hi11 hb11 q0 q1 q2 q3 q4 q5 z12 zl zg11
  replace hown13 := hide hown13
  refine wpT_done (by as_aux_lemma => kernel_rfl) ?_ 0
  go_simp
  replace hB := hide (hB.out.trans (hb1013.mono hB.out.size))
  replace hg := hide (blk_on hb1013 hg.out)
  replace hg3 := hide (blk_on hb1013 hg3.out)
  replace hgv := hide (blk_on hb1013 hgv.out)
  clear hb1013
  have z13 := hB.out.size
  have hi13 := hown13.out.reads.2.2.2
  obtain ⟨o1, ho1⟩ : ∃ o1, setB (xs.take T) p AB = o1 := ⟨_, rfl⟩
  rw [ho1] at hown13 hi13
  have he2 := heT.out
  have q0 : IntKind.i64.wrap (2 * (s : Int)) = 2 * (s : Int) := wraps62 _ (by omega) (by omega)
  have q1 : IntKind.i64.wrap ((e : Int) + 2 * (s : Int)) = ((e + 2 * s : Nat) : Int) := by rw [wraps62 _ (by omega) (by omega)]; omega
  have q2 : IntKind.u64.wrap (port : Int) = (port : Int) := by rw [IntKind.wrap_u64]; omega
  replace ho1 := hide ho1
  replace hi13 := hide hi13
  go_wp2_with fail
  have hsi := set_in (some ⟨g11, 0, none⟩) T c11 o1 (e + 2 * s) port 2 ((e : Int) + 2 * (s : Int)) (port : Int) 2 (by omega) rfl rfl w13 hi13.out (by omega) (by have := hwh6.out; omega) (by omega) (by omega) (by omega)
  refine hsi.mono ?_
  clear hsi
  rintro en w14 ⟨v14, rfl, hown14, hb14⟩
  obtain ⟨o2, ho2⟩ : ∃ o2, setB o1 (e + 2 * s) (beB port 2) = o2 := ⟨_, rfl⟩
  have ho1l : o1.length = T := hi13.out.1
  have ho2l : o2.length = T := by rw [← ho2, setB_length _ _ _ (by rw [beB_length]; have := hwh6.out; omega), ho1l]
  have ho2e : out2 xs T p e s port AB = o2 := by unfold out2; rw [ho1.out, ho2]
  rw [ho2] at hown14
  obtain ⟨A14, c14, rfl, hc14, hm14, hi14⟩ := hown14.form
  rw [ho2l] at hown14 hi14 hc14 ⊢
  have z134 := hb14.size
  clear hi13 ho1 hown13 q0 q1 q2 ho1l ho2
  replace hB := hide (hB.out.trans (hb14.mono hB.out.size))
  replace hg := hide (blk_on hb14 hg.out)
  replace hg3 := hide (blk_on hb14 hg3.out)
  replace hgv := hide (blk_on hb14 hgv.out)
  clear hb14
  have z14 := hB.out.size
  have hgy := hg3.out
  rw [← hy.out] at hgy
  unfold pkA at hgy
  have hcy := blk_cell hgy
  clear hgy
  obtain ⟨o3, ho3⟩ : ∃ o3, out3 v6 o2 (addrW v6 whi wlo) (addrW v6 thi tlo) = o3 := ⟨_, rfl⟩
  have ho3l : o3.length = T := by
    rw [← ho3]
    unfold out3
    split
    · exact ho2l
    · rw [setB_length _ _ _ (by rw [beB_length]; omega), ho2l]
  replace hown14 := hide hown14
  replace hi14 := hide hi14
  replace ho2l := hide ho2l
  replace ho2e := hide ho2e
  replace ho3 := hide ho3
  replace ho3l := hide ho3l
  go_upto_if 103 with fail
  go_cut [17] (fun ov wx => ∃ A c, ov = .slice A T c ∧ T ≤ c ∧ c ≤ maxLen ∧ OwnB wx w13.heap.size (.slice A T c) o3 ∧ Below w14.heap.size w14 wx)
  case first =>
    rcases v6 with _ | _
    · have zga := blk_lt hg.out
      have zgv := blk_lt hgv.out
      have hcaL := fun (l : Later w14) (o : Nat) => blk_cell (blk_below l.hb zga hg.out) o
      have hcvL := fun (l : Later w14) (o : Nat) => blk_cell (blk_below l.hb zgv hgv.out) o
      clear hcy
      go_upto_region 16 with fail
      refine wp_region_L (by as_aux_lemma => kernel_rfl) ?_
      refine wpE_seg 0 2 (fuel := 5) (by as_aux_lemma => kernel_rfl) (fun d _ _ _ _ h => by cases d <;> exact h) (by as_aux_lemma => kernel_rfl) (by as_aux_lemma => kernel_rfl) ?_
      simp only [List.drop_zero, List.take_succ_cons, List.take_zero]
      iterate 2 (refine wpQE_step (fun K hK => ?_); go_simp; refine hK _ ?_; clear hK K)
      refine wpQE_nil ?_
      refine wpE_seg 3 1 (fuel := 4) (by as_aux_lemma => kernel_rfl) (fun d _ _ _ _ h => by cases d <;> exact h) (by as_aux_lemma => kernel_rfl) (by as_aux_lemma => kernel_rfl) ?_
      simp only [List.drop_succ_cons, List.drop_zero, List.take_succ_cons, List.take_zero]
      iterate 1 (refine wpQE_step (fun K hK => ?_); go_simp; refine hK _ ?_; clear hK K)
      refine wpQE_nil ?_
      clear hcaL hcvL
      refine wpE_step 2 (fuel := 3) rfl (by as_aux_lemma => kernel_rfl) (fun l K hK => ?_)
      go_simp
      go_at_call 35
      refine (words_any false whi wlo 0 0 rfl _ bw1.out bw2.out (by omega)).mono ?_
      rintro en w15 ⟨v15, rfl, hown15, hb15⟩
      obtain ⟨A15, c15, rfl, -, -, hi15⟩ := hown15.form
      have hl15 : (addrW false whi wlo ++ [0]).length = 3 := by rw [List.length_append, addrW_length]; rfl
      rw [hl15] at hi15 ⊢
      refine hK _ _ hb15 ?_
      clear hK K hown15
      refine wpE_step 4 (fuel := 2) rfl (by as_aux_lemma => kernel_rfl) (fun l2 K hK => ?_)
      go_simp
      go_at_call 35
      refine (words_any false thi tlo 0 0 rfl _ h1.out h2.out (by omega)).mono ?_
      rintro en w16 ⟨v16, rfl, hown16, hb16⟩
      obtain ⟨A16, c16, rfl, -, -, hi16⟩ := hown16.form
      have hl16 : (addrW false thi tlo ++ [0]).length = 3 := by rw [List.length_append, addrW_length]; rfl
      rw [hl16] at hi16 ⊢
      refine hK _ _ hb16 ?_
      clear hK K hown16
      refine wpE_step 5 (fuel := 1) rfl (by as_aux_lemma => kernel_rfl) (fun l3 K hK => ?_)
      go_simp
      go_at_call 34
      have zl := l.hb.size
      have z15 := hb15.size
      have zl2 := l2.hb.size
      have z16 := hb16.size
      have zl3 := l3.hb.size
      have hb1 : Below w14.heap.size w14 w15 := l.hb.trans (hb15.mono zl)
      have hb2 : Below w15.heap.size w15 w16 := l2.hb.trans (hb16.mono zl2)
      have hb3 : Below w14.heap.size w14 l3.w := (hb1.trans (hb2.mono (by omega))).trans (l3.hb.mono (by omega))
      refine (check_any A14 A15 A16 T c14 10 3 c15 c16 10 rfl o2 (addrW false whi wlo ++ [0]) (addrW false thi tlo ++ [0]) l3.w (hi14.out.on hb3) (by have := hT.out; omega) (by omega) ((hi15.on hb2).on l3.hb) (hi16.on l3.hb) ?_ ?_ (by omega) (by omega)).mono ?_
      · intro x hx
        rcases List.mem_append.1 hx with h | h
        · exact addrW_le _ _ _ x h
        · rw [List.mem_singleton.1 h]; omega
      · intro x hx
        rcases List.mem_append.1 hx with h | h
        · exact addrW_le _ _ _ x h
        · rw [List.mem_singleton.1 h]; omega
      rintro en w17 ⟨v17, rfl, hown17, hb17⟩
      have ho : setB o2 10 (beB (wordsT (beN o2 10 2) (addrW false whi wlo ++ [0]) (addrW false thi tlo ++ [0])) 2) = o3 := ho3.out
      rw [ho] at hown17
      refine hK _ _ hb17 ?_
      clear hK K
      refine wpE_end (by as_aux_lemma => kernel_rfl) (fun l4 => ?_)
      have hown18 := (hown17.below l4.hb).weaken (show w13.heap.size ≤ l3.w.heap.size by omega)
      have hb18 : Below w14.heap.size w14 l4.w := (hb3.trans (hb17.mono (by omega))).trans (l4.hb.mono (by have := hb17.size; omega))
      obtain ⟨A18, c18, rfl, hc18, hm18, -⟩ := hown18.form
      rw [ho3l.out] at hown18 hc18 ⊢
      clear hb1 hb2 hb3 hi15 hi16 hb15 hb16 hb17 hown17 ho
      replace hown18 := hide hown18
      replace hb18 := hide hb18
      refine wpT_step 6 rfl (by as_aux_lemma => kernel_rfl) (fun K hK => ?_)
      go_simp
      refine hK _ _ ?_
      clear hK K
      refine wpT_done (by as_aux_lemma => kernel_rfl) ?_ 0
      go_wp2_with fail
      go_meet
      exact ⟨A18, c18, rfl, hc18, hm18, hown18.out, hb18.out⟩
    · have ho := ho3.out
      unfold out3 at ho
      rw [if_pos rfl] at ho
      subst ho
      go_wp2_with fail
      go_meet
      exact ⟨A14, c14, rfl, hc14, hm14, hown14.out, Below.refl _ _⟩
  case rest =>
  clear hown14 hi14 hc14 hm14
  obtain ⟨A14, c14, rfl, hc14, hm14, hown14, hb15⟩ := hcut
  clear hcy
  replace hB := hide (hB.out.trans (hb15.mono hB.out.size))
  replace hg := hide (blk_on hb15 hg.out)
  replace hg3 := hide (blk_on hb15 hg3.out)
  replace hgv := hide (blk_on hb15 hgv.out)
  clear hb15
  have hgy := hg3.out
  rw [← hy.out] at hgy
  unfold pkA at hgy
  have hcy := blk_cell hgy
  clear hgy
  have zwc := hB.out.size
  have hiw := hown14.reads.2.2.2
  have ownw := hown14.weaken (show w.heap.size ≤ w13.heap.size from z13)
  obtain ⟨wh, hwhe⟩ : ∃ wh, e + whR udp = wh := ⟨_, rfl⟩
  obtain ⟨ck, hck⟩ : ∃ ck, beN o3 wh 2 = ck := ⟨_, rfl⟩
  have hckl : ck < 65536 := hck ▸ beN_lt o3 wh 2
  have hAt := fun w' hi => Octet.at_lit (wh : Int) 2 wh 2 rfl rfl A14 T c14 o3 w' hi (by have := hT.out; unfold maxLen; omega) (by have := heT.out; have := hT.out; omega) (by omega)
  rw [hck] at hAt
  have hUe : out5 udp o3 wh wp port (addrW v6 whi wlo) (addrW v6 thi tlo) = U := by
    have := hU.out
    rw [hAB.out, ho2e.out, ho3.out, hwhe] at this
    exact this
  have hTm := hT.out
  have hwT : wh + 2 ≤ T := by have := heT.out; omega
  have q16 : IntKind.i64.wrap ((e : Int) + 16) = (e : Int) + 16 := wraps62 _ (by omega) (by omega)
  have q6 : IntKind.i64.wrap ((e : Int) + 6) = (e : Int) + 6 := wraps62 _ (by omega) (by omega)
  replace hiw := hide hiw
  replace ownw := hide ownw
  replace hwhe := hide hwhe
  replace hck := hide hck
  replace hAt := hide hAt
  replace hUe := hide hUe
  replace hown14 := hide hown14
  go_upto_if 115 with fail
  by_cases hz : udp = true ∧ ck = 0
  · obtain ⟨rfl, rfl⟩ := hz
    have hw6 : (e : Int) + 6 = (wh : Int) := by have := hwhe.out; have e6 : whR true = 6 := rfl; omega
    have hfin : InEnd 0 U w wc (.returned (.tuple #[.slice A14 T c14, .int .i64 0])) := by
      refine InEnd.yes ?_ hB.out
      rw [← hUe.out]
      unfold out5
      rw [hck.out, if_pos ⟨rfl, rfl⟩]
      exact ownw.out
    replace hfin := hide hfin
    clear hcy
    go_wp2_with fail
    refine (hAt.out _ hiw.out).mono ?_
    rintro en w' ⟨rfl, rfl⟩
    go_wp2_with fail
    go_ret2
    exact hfin.out
  obtain ⟨cz, hcz⟩ : ∃ cz, ((ck : Int) == 0) = cz := ⟨_, rfl⟩
  go_cut [18] (fun kv wx => kv = .int .i64 (wh : Int) ∧ wc = wx)
  case first =>
    clear hcy
    rcases udp with _ | _
    · have hw6 : (e : Int) + 16 = (wh : Int) := by have := hwhe.out; have e6 : whR false = 16 := rfl; omega
      go_wp2_with fail
      go_meet
      exact ⟨by rw [hw6], rfl⟩
    · have hw6 : (e : Int) + 6 = (wh : Int) := by have := hwhe.out; have e6 : whR true = 6 := rfl; omega
      have hck0 : ((ck : Int) == 0) = false := by rw [beq_eq_false_iff_ne]; intro h; exact hz ⟨rfl, by omega⟩
      clear hcz
      go_wp2_with fail
      refine (hAt.out _ hiw.out).mono ?_
      rintro en w' ⟨rfl, rfl⟩
      go_wp2_with fail
      go_meet
      exact ⟨rfl, rfl⟩
  case rest =>
  obtain ⟨rfl, rfl⟩ := hcut
  clear hcz hcy
  obtain ⟨fs, hfs⟩ : ∃ fs, addrW v6 whi wlo = fs := ⟨_, rfl⟩
  obtain ⟨ts, hts⟩ : ∃ ts, addrW v6 thi tlo = ts := ⟨_, rfl⟩
  obtain ⟨ml, hml⟩ : ∃ ml, fs.length + 1 = ml := ⟨_, rfl⟩
  have hml9 : ml ≤ 9 := by rw [← hml, ← hfs, addrW_length]; split <;> omega
  have hml2 : ts.length + 1 = ml := by rw [← hml, ← hfs, ← hts, addrW_length, addrW_length]
  obtain ⟨cq, hcq⟩ : ∃ cq, wordsT ck (fs ++ [wp]) (ts ++ [port]) = cq := ⟨_, rfl⟩
  have hcq5 : cq ≤ 65535 := hcq ▸ wordsT_le _ _ ck (by omega)
  obtain ⟨o4, ho4⟩ : ∃ o4, setB o3 wh (beB cq 2) = o4 := ⟨_, rfl⟩
  have hlf : (fs ++ [wp]).length = ml := by rw [List.length_append]; exact hml
  have hlt : (ts ++ [port]).length = ml := by rw [List.length_append]; exact hml2
  have ho4l : o4.length = T := by rw [← ho4, setB_length _ _ _ (by rw [beB_length, ho3l.out]; omega), ho3l.out]
  have ho4b : beN o4 wh 2 = cq := by rw [← ho4]; exact beN_setB2 o3 wh cq (by rw [ho3l.out]; omega) (by omega)
  have hU2 : (if udp = true ∧ cq = 0 then setB o4 wh (beB 65535 2) else o4) = U := by
    rw [← hUe.out]
    unfold out5
    rw [hck.out, if_neg hz, hfs, hts, hcq, ho4]
  have ffs : ∀ x ∈ fs ++ [wp], x ≤ 65535 := by
    intro x hx
    rcases List.mem_append.1 hx with h | h
    · exact addrW_le _ _ _ x (hfs ▸ h)
    · rw [List.mem_singleton.1 h]; exact bwp
  have fts : ∀ x ∈ ts ++ [port], x ≤ 65535 := by
    intro x hx
    rcases List.mem_append.1 hx with h | h
    · exact addrW_le _ _ _ x (hts ▸ h)
    · rw [List.mem_singleton.1 h]; exact hport
  have zga := blk_lt hg.out
  have zgv := blk_lt hgv.out
  have hcaL := fun (l : Later wc) (o : Nat) => blk_cell (blk_below l.hb zga hg.out) o
  have hcvL := fun (l : Later wc) (o : Nat) => blk_cell (blk_below l.hb zgv hgv.out) o
  replace hfs := hide hfs
  replace hts := hide hts
  replace hcq := hide hcq
  replace ho4 := hide ho4
  replace ho4l := hide ho4l
  replace ho4b := hide ho4b
  replace hU2 := hide hU2
  replace ffs := hide ffs
  replace fts := hide fts
  replace hlf := hide hlf
  replace hlt := hide hlt
  replace hml := hide hml
  replace hml2 := hide hml2
  go_upto_region 22 with fail
  refine wp_region_L (by as_aux_lemma => kernel_rfl) ?_
  refine wpE_seg 0 4 (fuel := 6) (by as_aux_lemma => kernel_rfl) (fun d _ _ _ _ h => by cases d <;> exact h) (by as_aux_lemma => kernel_rfl) (by as_aux_lemma => kernel_rfl) ?_
  simp only [List.drop_zero, List.take_succ_cons, List.take_zero]
  iterate 4 (refine wpQE_step (fun K hK => ?_); go_simp; refine hK _ ?_; clear hK K)
  refine wpQE_nil ?_
  refine wpE_seg 5 2 (fuel := 4) (by as_aux_lemma => kernel_rfl) (fun d _ _ _ _ h => by cases d <;> exact h) (by as_aux_lemma => kernel_rfl) (by as_aux_lemma => kernel_rfl) ?_
  simp only [List.drop_succ_cons, List.drop_zero, List.take_succ_cons, List.take_zero]
  iterate 2 (refine wpQE_step (fun K hK => ?_); go_simp; refine hK _ ?_; clear hK K)
  refine wpQE_nil ?_
  clear hcaL hcvL
  refine wpE_step 4 (fuel := 3) rfl (by as_aux_lemma => kernel_rfl) (fun l K hK => ?_)
  go_simp
  go_at_call 35
  refine (words_any v6 whi wlo wp (wp : Int) rfl _ bw1.out bw2.out bwp).mono ?_
  rintro en w15 ⟨v15, rfl, hown15, hb15⟩
  rw [hfs.out] at hown15
  obtain ⟨A15, c15, rfl, -, -, hi15⟩ := hown15.form
  rw [hlf.out] at hi15 ⊢
  refine hK _ _ hb15 ?_
  clear hK K hown15
  refine wpE_step 7 (fuel := 2) rfl (by as_aux_lemma => kernel_rfl) (fun l2 K hK => ?_)
  go_simp
  go_at_call 35
  refine (words_any v6 thi tlo port (port : Int) rfl _ h1.out h2.out hport).mono ?_
  rintro en w16 ⟨v16, rfl, hown16, hb16⟩
  rw [hts.out] at hown16
  obtain ⟨A16, c16, rfl, -, -, hi16⟩ := hown16.form
  rw [hlt.out] at hi16 ⊢
  refine hK _ _ hb16 ?_
  clear hK K hown16
  refine wpE_step 8 (fuel := 1) rfl (by as_aux_lemma => kernel_rfl) (fun l3 K hK => ?_)
  go_simp
  go_at_call 34
  have zl := l.hb.size
  have z15 := hb15.size
  have zl2 := l2.hb.size
  have z16 := hb16.size
  have zl3 := l3.hb.size
  have hb1 : Below wc.heap.size wc w15 := l.hb.trans (hb15.mono zl)
  have hb2 : Below w15.heap.size w15 w16 := l2.hb.trans (hb16.mono zl2)
  have hb3 : Below wc.heap.size wc l3.w := (hb1.trans (hb2.mono (by omega))).trans (l3.hb.mono (by omega))
  refine (check_any A14 A15 A16 T c14 wh ml c15 c16 (wh : Int) rfl o3 (fs ++ [wp]) (ts ++ [port]) l3.w (hiw.out.on hb3) (by omega) (by omega) ((hi15.on hb2).on l3.hb) (hi16.on l3.hb) ffs.out fts.out (by omega) (by have := hml.out; omega)).mono ?_
  rintro en w17 ⟨v17, rfl, hown17, hb17⟩
  rw [hck.out, hcq.out, ho4.out] at hown17
  refine hK _ _ hb17 ?_
  clear hK K
  refine wpE_end (by as_aux_lemma => kernel_rfl) (fun l4 => ?_)
  have hown18 := (hown17.below l4.hb).weaken (show w.heap.size ≤ l3.w.heap.size by omega)
  have hb18 : Below wc.heap.size wc l4.w := (hb3.trans (hb17.mono (by omega))).trans (l4.hb.mono (by have := hb17.size; omega))
  obtain ⟨A18, c18, rfl, hc18, hm18, hi18⟩ := hown18.form
  rw [ho4l.out] at hown18 hc18 hi18 ⊢
  clear hb1 hb2 hb3 hi15 hi16 hb15 hb16 hb17 hown17 hiw ownw hAt
  replace hown18 := hide hown18
  replace hi18 := hide hi18
  refine wpT_step 9 rfl (by as_aux_lemma => kernel_rfl) (fun K hK => ?_)
  go_simp
  refine hK _ _ ?_
  clear hK K
  refine wpT_done (by as_aux_lemma => kernel_rfl) ?_ 0
  replace hB := hide (hB.out.trans (hb18.mono hB.out.size))
  replace hg := hide (blk_on hb18 hg.out)
  replace hg3 := hide (blk_on hb18 hg3.out)
  replace hgv := hide (blk_on hb18 hgv.out)
  clear hb18
  have hAt := fun w' hi => Octet.at_lit (wh : Int) 2 wh 2 rfl rfl A18 T c18 o4 w' hi (by unfold maxLen; omega) (by omega) (by omega)
  rw [ho4b.out] at hAt
  have hgy := hg3.out
  rw [← hy.out] at hgy
  unfold pkA at hgy
  have hcy := blk_cell hgy
  have zl4 := hB.out.size
  clear hgy
  by_cases hu : udp = true
  · subst hu
    by_cases hq0 : cq = 0
    · have hqz : ((cq : Int) == 0) = true := by rw [hq0]; rfl
      have hU3 : setB o4 wh (beB 65535 2) = U := by have := hU2.out; rwa [if_pos ⟨rfl, hq0⟩] at this
      clear hz
      replace hAt := hide hAt
      replace hU3 := hide hU3
      go_wp2_with fail
      refine (hAt.out _ hi18.out).mono ?_
      rintro en w' ⟨rfl, rfl⟩
      clear hcy
      go_wp2_with fail
      have hsi := set_in A18 T c18 o4 wh 65535 2 (wh : Int) 65535 2 rfl rfl rfl _ hi18.out (by omega) (by omega) (by omega) (by omega) (by omega)
      refine hsi.mono ?_
      clear hsi
      rintro en w19 ⟨v19, rfl, hown19, hb19⟩
      rw [hU3.out] at hown19
      have hfin := InEnd.yes (hown19.weaken zl4) (hB.out.trans (hb19.mono zl4))
      clear hown19 hb19
      replace hfin := hide hfin
      go_wp2_with fail
      go_ret2
      exact hfin.out
    · have hqz : ((cq : Int) == 0) = false := by rw [beq_eq_false_iff_ne]; omega
      have hU3 : o4 = U := by have := hU2.out; rwa [if_neg (fun h => hq0 h.2)] at this
      have hfin := InEnd.yes (hU3 ▸ hown18.out) hB.out
      clear hz hU3
      replace hAt := hide hAt
      replace hfin := hide hfin
      go_wp2_with fail
      refine (hAt.out _ hi18.out).mono ?_
      rintro en w' ⟨rfl, rfl⟩
      clear hcy
      go_wp2_with fail
      go_ret2
      exact hfin.out
  · obtain rfl : udp = false := by simpa using hu
    have hU3 : o4 = U := by have := hU2.out; rwa [if_neg (fun h => hu h.1)] at this
    have hfin := InEnd.yes (hU3 ▸ hown18.out) hB.out
    clear hz hU3
    replace hAt := hide hAt
    replace hfin := hide hfin
    go_wp2_with fail
    go_ret2
    exact hfin.out
end Nat15
end Go.Proofs.Ytfmmmjaficbchaa
