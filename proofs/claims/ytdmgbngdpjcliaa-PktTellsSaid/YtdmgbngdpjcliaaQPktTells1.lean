/- The statement IcmpParses, walked: whatever the bytes are, the call returns true and leaves what was there. Conditions: slices of bytes that read as lists. -/
import Derived.Test.YtdmgbngdpjcliaaQPktBig4
import Derived.Test.YtdmgbngdpjcliaaQPktBig3
import Derived.Test.YtdmgbngdpjcliaaQPktBig7
import Derived.Test.YtdmgbngdpjcliaaQPktMakes2
import Derived.Test.YtdmgbngdpjcliaaQPktBig10
import Derived.Test.YtdmgbngdpjcliaaQPktBig11
import Derived.Test.YtdmgbngdpjcliaaQPktBig14
import Derived.Test.YtdmgbngdpjcliaaQPktParses3
import Derived.Test.YtdmgbngdpjcliaaQPktParses1
import Derived.Test.YtdmgbngdpjcliaaQTunLess1
namespace Go.Proofs.Ytdmgbngdpjcliaa
open Go.RowKit Go.ChangeShapes Go.WideShapes Go.ChangeAt Go.Deep
namespace Icmp
theorem word_eq (a b c d : Nat) : ((a * 256 + b) * 256 + c) * 256 + d = a * 16777216 + b * 65536 + c * 256 + d := by omega
end Icmp
end Go.Proofs.Ytdmgbngdpjcliaa
/- The statement IcmpPuts, walked: any message's bytes, and that they are parsed as they were put. Conditions: slices of bytes that read as lists. -/
namespace Go.Proofs.Ytdmgbngdpjcliaa
open Go.RowKit Go.ChangeShapes Go.WideShapes Go.ChangeAt Go.Deep
namespace Icmp
/-! ### Plain -/
theorem head0_length (t k wd : Nat) (xs : List UInt8) : (head0 t k wd xs).length = xs.length + 8 := by simp [head0, beB_length]; omega
theorem msgB_length (ps : List UInt8) (t k wd : Nat) (xs : List UInt8) : (msgB ps t k wd xs).length = xs.length + 8 := by
  unfold msgB
  rw [setB_length _ _ _ (by rw [beB_length, head0_length]; omega), head0_length]
theorem msgB_sum (ps : List UInt8) (t k wd : Nat) (xs : List UInt8) (he : ps.length % 2 = 0) : Sum.ones (Sum.tot false (ps ++ msgB ps t k wd xs)) = 65535 := by
  unfold msgB
  rw [Sum.tot_set ps (head0 t k wd xs) 2 _ (by omega) (by rw [head0_length]; omega) (by simp [head0]) (by omega)]
  exact Sum.ones_check _
theorem msgB_form (ps : List UInt8) (t k wd : Nat) (xs : List UInt8) : ∃ a b, msgB ps t k wd xs = [UInt8.ofNat t, UInt8.ofNat k, a, b] ++ (beB wd 4 ++ xs) ∧
    a = UInt8.ofNat ((65535 - Sum.ones (Sum.tot false (ps ++ head0 t k wd xs))) / 256) ∧ b = UInt8.ofNat (65535 - Sum.ones (Sum.tot false (ps ++ head0 t k wd xs))) := by
  refine ⟨_, _, ?_, rfl, rfl⟩
  unfold msgB
  generalize 65535 - Sum.ones (Sum.tot false (ps ++ head0 t k wd xs)) = c
  simp [setB, head0, beB]
theorem msgB_get (ps : List UInt8) (t k wd : Nat) (xs : List UInt8) (ht : t ≤ 255) (hk : k ≤ 255) (hwd : wd < 4294967296) :
    ((msgB ps t k wd xs).getD 0 0).toNat = t ∧ ((msgB ps t k wd xs).getD 1 0).toNat = k ∧ beN (msgB ps t k wd xs) 4 4 = wd ∧ (msgB ps t k wd xs).drop 8 = xs := by
  obtain ⟨a, b, e, _, _⟩ := msgB_form ps t k wd xs
  rw [e]
  refine ⟨?_, ?_, beN_put wd 4 _ xs 4 rfl hwd, ?_⟩
  · simp; omega
  · simp; omega
  · simp [beB]
/-! ### The walk -/
theorem msgB_set (ps : List UInt8) (t k wd : Nat) (xs : List UInt8) : msgB ps t k wd xs = ((head0 t k wd xs).set 2 (UInt8.ofNat ((65535 - Sum.ones (Sum.tot false (ps ++ head0 t k wd xs))) / 256))).set 3 (UInt8.ofNat (65535 - Sum.ones (Sum.tot false (ps ++ head0 t k wd xs)))) := by
  unfold msgB
  generalize 65535 - Sum.ones (Sum.tot false (ps ++ head0 t k wd xs)) = c
  simp [setB, head0, beB]
end Icmp
end Go.Proofs.Ytdmgbngdpjcliaa
/- What is quoted of a datagram that was cut. No condition on the world. -/
namespace Go.Proofs.Ytdmgbngdpjcliaa
open Go.RowKit Go.ChangeShapes Go.WideShapes Go.ChangeAt Go.Deep
namespace Pkt
theorem quoted4 (slo dlo s d : Nat) (D : List UInt8) (hD : D.length ≤ 4096) (hs : beN D 0 2 = s) (hd : beN D 2 2 = d) (h6 : slo < 4294967296) (h7 : dlo < 4294967296) (k : Nat) (ds : List UInt8) (hds : (Four.hdB 0 0 0 64 17 slo dlo [] D.length ++ D).take k = ds) :
    (ds.length < 24 → Icmp.QuotedIs false 3 ds 2 0 false 0 0 false 0 0 0 0) ∧ (24 ≤ ds.length → Icmp.QuotedIs false 3 ds 0 17 false 0 slo false 0 dlo s d) := by
  obtain ⟨U, hU⟩ : ∃ U, Four.hdB 0 0 0 64 17 slo dlo [] D.length ++ D = U := ⟨_, rfl⟩
  obtain ⟨k1, k2, k3, k4, k5, k6, k7, k8, k9, k10, k11, k12, k13, k14, k15⟩ := Four.puts_get 0 0 0 64 17 slo dlo [] D [] 0 D.length rfl rfl (by omega) (by omega) (by omega) (by omega) (by omega) h6 h7 (by omega) (by omega) hD U (by rw [List.append_nil]; exact hU)
  rw [hU] at hds
  have hUl : U.length = 20 + D.length := by rw [← hU, List.length_append, Four.hdB_length]; rfl
  have hl : ds.length = min k (20 + D.length) := by rw [← hds, List.length_take, hUl]
  have hE : Icmp.errB false 3 = true := by decide
  have get : ∀ i, i < ds.length → ds.getD i 0 = U.getD i 0 := fun i hi => by rw [← hds, Six.getD_take U k i (by omega)]
  have ben : ∀ p j, p + j ≤ ds.length → beN ds p j = beN U p j := fun p j hj => by rw [← hds, Six.beN_take U k p j (by omega)]
  by_cases h20 : ds.length < 20
  · refine ⟨fun _ cd wd A c W hx hc hcm => ?_, fun h => absurd h (by omega)⟩
    exact Icmp.quoted_fail false 3 cd wd A ds.length c ds W hx hc hcm (by omega) hE 2 0 0 0 0 0 0 [] (by
      unfold Icmp.QIs
      rw [if_neg (by simp)]
      exact ⟨by unfold Four.quoteK; rw [if_pos h20], fun h => absurd h (by omega)⟩) (by omega)
  have hQ : Icmp.QIs false ds.length ds 0 17 0 slo 0 dlo 0 (ds.drop 20) := by
    unfold Icmp.QIs
    rw [if_neg (by simp)]
    have g0 := get 0 (by omega)
    refine ⟨?_, fun _ => ⟨by rw [get 9 (by omega), k10], rfl, by rw [ben 12 4 (by omega), k11], rfl, by rw [ben 16 4 (by omega), k12], by rw [ben 6 2 (by omega), k8], by rw [g0, k2]⟩⟩
    unfold Four.quoteK
    rw [if_neg h20, g0, k2, if_neg (fun h => h k1), if_neg (by omega)]
  have hrl : (ds.drop 20).length = ds.length - 20 := List.length_drop
  obtain ⟨F, hF⟩ : ∃ F, Icmp.flowK 0 17 (ds.drop 20).length = F := ⟨_, rfl⟩
  have hq := fun (cd wd : Int) (A : Option Addr) (c : Nat) (W : World) (hx : IsB W W.heap.size A ds.length ds) (hc : ds.length ≤ c) (hcm : c ≤ maxLen) =>
    Icmp.quoted_ok false 3 cd wd A ds.length c ds W hx hc hcm (by omega) hE 17 0 slo 0 dlo 0 (ds.drop 20) hQ (by unfold maxLen; omega) F hF
  have hFv : F = if ds.length < 24 then 2 else 0 := by
    rw [← hF, hrl]
    unfold Icmp.flowK
    rw [if_neg (by omega), if_neg (by omega)]
    split <;> split <;> omega
  refine ⟨fun h cd wd A c W hx hc hcm => ?_, fun h cd wd A c W hx hc hcm => ?_⟩
  · rw [if_pos h] at hFv
    refine (hq cd wd A c W hx hc hcm).mono ?_
    rintro e w' ⟨h1, _, hb⟩
    rw [h1 (by omega), hFv]
    exact ⟨rfl, hb⟩
  · rw [if_neg (by omega)] at hFv
    refine (hq cd wd A c W hx hc hcm).mono ?_
    rintro e w' ⟨_, h2, hb⟩
    have e15 : ds.drop 20 = D.take (k - 20) := by
      rw [← hds, List.drop_take, k15, List.append_nil]
    rw [h2 hFv, e15, Six.beN_take D _ 0 2 (by omega), Six.beN_take D _ 2 2 (by omega), hs, hd]
    exact ⟨rfl, hb⟩
theorem chain17 (rs : List UInt8) : Six.chainF 9 17 rs [] = some ([], 17, rs) := by
  unfold Six.chainF
  rw [if_pos (by decide)]
theorem quoted6 (shi slo dhi dlo s d : Nat) (D : List UInt8) (hD : D.length ≤ 4096) (hs : beN D 0 2 = s) (hd : beN D 2 2 = d) (h4 : shi < 18446744073709551616) (h5 : slo < 18446744073709551616) (h6 : dhi < 18446744073709551616) (h7 : dlo < 18446744073709551616) (k : Nat) (ds : List UInt8) (hds : (Six.allB6 0 0 64 shi slo dhi dlo 17 [] D).take k = ds) :
    (ds.length < 44 → Icmp.QuotedIs true 1 ds 2 0 false 0 0 false 0 0 0 0) ∧ (44 ≤ ds.length → Icmp.QuotedIs true 1 ds 0 17 true shi slo true dhi dlo s d) := by
  obtain ⟨U, hU⟩ : ∃ U, Six.allB6 0 0 64 shi slo dhi dlo 17 [] D = U := ⟨_, rfl⟩
  have hr : Six.rightHB 0 0 64 true true 17 [] = true := by decide
  obtain ⟨g1, g2, g2', g2'', g3, g4, g5, g6, g7, g8, g9⟩ := Six.puts_parse 0 0 64 shi slo dhi dlo 17 [] D [] U hr h4 h5 h6 h7 hD (by rw [List.append_nil]; exact hU)
  have hUl : U.length = 40 + D.length := by rw [← hU, Six.allB6_length]; rfl
  have u0 : U.getD 0 0 = 96 := by rw [← hU]; rfl
  have u6 : U.getD 6 0 = 17 := by rw [← hU]; rfl
  rw [hU] at hds
  have hl : ds.length = min k (40 + D.length) := by rw [← hds, List.length_take, hUl]
  have hE : Icmp.errB true 1 = true := by decide
  have get : ∀ i, i < ds.length → ds.getD i 0 = U.getD i 0 := fun i hi => by rw [← hds, Six.getD_take U k i (by omega)]
  have ben : ∀ p j, p + j ≤ ds.length → beN ds p j = beN U p j := fun p j hj => by rw [← hds, Six.beN_take U k p j (by omega)]
  by_cases h40 : ds.length < 40
  · refine ⟨fun _ cd wd A c W hx hc hcm => ?_, fun h => absurd h (by omega)⟩
    exact Icmp.quoted_fail true 1 cd wd A ds.length c ds W hx hc hcm (by omega) hE 2 0 0 0 0 0 0 [] (by
      unfold Icmp.QIs
      rw [if_pos rfl]
      exact ⟨by unfold Six.quoteK; rw [if_pos h40], fun h => absurd h (by omega)⟩) (by omega)
  have e6 : (ds.getD 6 0).toNat = 17 := by rw [get 6 (by omega), u6]; rfl
  have hR : Six.quoteR ds = some ([], 17, ds.drop 40) := by unfold Six.quoteR; rw [e6]; exact chain17 _
  have hQ : Icmp.QIs true ds.length ds 0 17 shi slo dhi dlo 0 (ds.drop 40) := by
    unfold Icmp.QIs
    rw [if_pos rfl]
    refine ⟨?_, fun _ => ⟨[], hR, rfl, by rw [ben 8 8 (by omega), g6], by rw [ben 16 8 (by omega), g7], by rw [ben 24 8 (by omega), g8], by rw [ben 32 8 (by omega), g9]⟩⟩
    have e0 : (ds.getD 0 0).toNat / 16 = 6 := by rw [get 0 (by omega), u0]; rfl
    unfold Six.quoteR at hR
    unfold Six.quoteK
    rw [if_neg h40, if_neg (fun h => h e0), hR]
    rfl
  have hrl : (ds.drop 40).length = ds.length - 40 := List.length_drop
  obtain ⟨F, hF⟩ : ∃ F, Icmp.flowK 0 17 (ds.drop 40).length = F := ⟨_, rfl⟩
  have hq := fun (cd wd : Int) (A : Option Addr) (c : Nat) (W : World) (hx : IsB W W.heap.size A ds.length ds) (hc : ds.length ≤ c) (hcm : c ≤ maxLen) =>
    Icmp.quoted_ok true 1 cd wd A ds.length c ds W hx hc hcm (by omega) hE 17 shi slo dhi dlo 0 (ds.drop 40) hQ (by unfold maxLen; omega) F hF
  have hFv : F = if ds.length < 44 then 2 else 0 := by
    rw [← hF, hrl]
    unfold Icmp.flowK
    rw [if_neg (by omega), if_neg (by omega)]
    split <;> split <;> omega
  have e15 : U.drop 40 = D := by
    have := g2'
    unfold Six.quoteR at this
    rw [show (U.getD 6 0).toNat = 17 by rw [u6]; rfl, chain17] at this
    simpa using this
  refine ⟨fun h cd wd A c W hx hc hcm => ?_, fun h cd wd A c W hx hc hcm => ?_⟩
  · rw [if_pos h] at hFv
    refine (hq cd wd A c W hx hc hcm).mono ?_
    rintro e w' ⟨h1, _, hb⟩
    rw [h1 (by omega), hFv]
    exact ⟨rfl, hb⟩
  · rw [if_neg (by omega)] at hFv
    refine (hq cd wd A c W hx hc hcm).mono ?_
    rintro e w' ⟨_, h2, hb⟩
    have e16 : ds.drop 40 = D.take (k - 40) := by
      rw [← hds, List.drop_take, e15]
    rw [h2 hFv, e16, Six.beN_take D _ 0 2 (by omega), Six.beN_take D _ 2 2 (by omega), hs, hd]
    exact ⟨rfl, hb⟩
/-- What upper makes of a message of an error. -/
theorem upis_msg (cs : Array Value) (hcs : cs.size = 23) (hone : cs.all (·.oneCell') = true) (v6 : Bool) (h0 : cs[0]? = some (.bool v6)) (h1 : cs[1]? = some (.int .i64 (if v6 = true then 58 else 1))) (ps ds : List UInt8) (hps : ps.length ≤ 4096) (hpe : ps.length % 2 = 0) (hds : ds.length ≤ 4096) (ty : Nat) (hty : ty ≤ 255)
    (K2 : Nat) (qr : Int) (sv : Bool) (sh sl : Int) (dv : Bool) (dh dl sp dp : Int) (hQ : Icmp.QuotedIs v6 ty ds K2 qr sv sh sl dv dh dl sp dp) :
    UpIs cs (if v6 = true then 58 else 1) (Icmp.msgB (aheadP v6 ps) ty 0 0 ds) ps K2 (errA cs (tuA qr dv dh dl sv sh sl dp sp)) := by
  intro A P c d w hx hp hc hcm
  have hml := Icmp.msgB_length (aheadP v6 ps) ty 0 0 ds
  have hal : (aheadP v6 ps).length % 2 = 0 ∧ (aheadP v6 ps).length ≤ 4096 := by
    unfold aheadP
    split
    · exact ⟨hpe, hps⟩
    · exact ⟨rfl, by simp⟩
  obtain ⟨g1, g2, g3, g4⟩ := Icmp.msgB_get (aheadP v6 ps) ty 0 0 ds hty (by omega) (by omega)
  have hP : Icmp.ParseIs (Icmp.msgB (aheadP v6 ps) ty 0 0 ds) (aheadP v6 ps) 0 ty 0 0 ds := by
    intro A P c d W hx hp hc hcm
    refine (Icmp.parse_ok A P _ c _ d _ _ W hx hp (by omega) hc (by omega) (by unfold maxLen; omega) (Icmp.msgB_sum (aheadP v6 ps) ty 0 0 ds hal.1)).mono ?_
    rintro e w' ⟨A', m', c', rfl, hi, h1, h2, hb⟩
    rw [g4] at hi
    obtain rfl : ds.length = m' := hi.1
    refine ⟨A', c', ?_, hi, h1, h2, hb⟩
    unfold Icmp.msgV
    rw [g1, g2, g3]
    rfl
  have := upper_err cs hcs hone v6 h0 _ h1 (if v6 = true then 58 else 1) A P c d _ ps w hx hp hc hcm (by omega) (by unfold maxLen; omega) (by split <;> omega) (by split <;> omega) rfl 0 ty 0 0 ds hP K2 qr sv sh sl dv dh dl sp dp hQ
  rw [show (if (0 : Nat) ≠ 0 then (0 : Nat) else K2) = K2 from rfl] at this
  exact this
end Pkt
end Go.Proofs.Ytdmgbngdpjcliaa
/- pkt.Unreach by contract. Conditions: a slice of bytes that reads as a list, at most 4000 bytes; what pkt.Parse makes of them is known. -/
namespace Go.Proofs.Ytdmgbngdpjcliaa
open Go.RowKit Go.ChangeShapes Go.WideShapes Go.ChangeAt Go.Deep
namespace Pkt
set_option maxRecDepth 20000 in
set_option maxHeartbeats 8000000 in
theorem unreach_four (fhi flo : Nat) (ttl : Int) (n : Nat) (xs : List UInt8) (most : Int) (k : Nat) (hk : (k : Int) = min (n : Int) (max most 0)) (y : Array Value) (shi slo : Nat) (hy0 : y[0]? = some (.bool false)) (hy12 : y[12]? = some (.bool false)) (hy2 : y[2]? = some (.bool false)) (hy3 : y[3]? = some (.int .u64 (shi : Int))) (hy4 : y[4]? = some (.int .u64 (slo : Int)))
    (hys : y.size = 23) (hyo : y.all (·.oneCell') = true) (A : Option Addr) (c : Nat) (w : World) (hx : IsB w w.heap.size A n xs) (hnc : n ≤ c) (hcm : c ≤ maxLen) (hn : n ≤ 4000)
    (hP : ∀ w : World, IsB w w.heap.size A n xs → Calls Try.prog 29 #[.slice A n c] w fun e w' => End2 0 y w w' e) :
    Calls Try.prog 37 #[.agg #[.bool false, .int .u64 (fhi : Int), .int .u64 (flo : Int)], .int .i64 ttl, .slice A n c, .int .i64 most] w fun e w' =>
      InEnd (fourK ttl fhi flo shi slo) (Four.hdB 0 0 0 ttl.toNat 1 flo slo [] (Icmp.msgB [] 3 0 0 (xs.take k)).length ++ Icmp.msgB [] 3 0 0 (xs.take k)) w w' e := by
  obtain ⟨w1, hw1⟩ : ∃ w1, w.alloc (.cells #[.bool false, .int .u64 (fhi : Int), .int .u64 (flo : Int)] 26) = w1 := ⟨_, rfl⟩
  have hB : Below w.heap.size w w1 := hw1 ▸ (Below.refl _ _).alloc (Nat.le_refl _) _
  have hbx : w1.heap[w.heap.size]? = some (.cells #[.bool false, .int .u64 (fhi : Int), .int .u64 (flo : Int)] 26 (0, 0)) := hw1 ▸ blk_new _ _ _
  have hkn : k ≤ n := by omega
  obtain ⟨M, hM⟩ : ∃ M, Icmp.msgB [] 3 0 0 (xs.take k) = M := ⟨_, rfl⟩
  obtain ⟨ml, hml'⟩ : ∃ ml, M.length = ml := ⟨_, rfl⟩
  rw [hM, hml']
  replace hx := hide hx
  replace hP := hide hP
  replace hyo := hide hyo
  replace hk := hide hk
  replace hM := hide hM
  replace hml' := hide hml'
  replace hB := hide hB
  replace hbx := hide hbx
  go_enter Try.func37, Try.ntmps37
  go_upto_region 1 with fail
  clear hw1
  apply wp_region_lit
  iterate 1 (refine wpList_plain rfl fun K hK => ?_; go_simp; refine hK _ _ ?_; clear hK K)
  refine wpList_plain rfl fun K hK => ?_
  go_simp
  refine ((hP.out _ (hx.out.on hB.out))).mono ?_
  rintro e w2 hE
  obtain ⟨z, rfl, -, -, hz, hb2⟩ := hE.letter (fun _ => ⟨hys, hyo.out⟩)
  rw [if_pos rfl] at hz
  subst hz
  replace hB := hide (hB.out.trans (hb2.mono hB.out.size))
  replace hbx := hide (blk_on hb2 hbx.out)
  clear hb2
  have z2 := hB.out.size
  clear hE
  go_simp
  refine hK _ _ ?_
  clear hK K
  iterate 3 (refine wpList_plain rfl fun K hK => ?_; go_simp; refine hK _ _ ?_; clear hK K)
  refine wpl_new rfl rfl 58 _ (alloc_pk _ rfl) 10 rfl (.tmp 20) rfl _ (fun _ => rfl) (fun _ => rfl) (by rw [pkZ_size]; exact hys) (by rw [size_pk, hys]) hyo.out ?_
  intro w3 hg hb3 hz3
  replace hB := hide (hB.out.trans (hb3.mono hB.out.size))
  replace hbx := hide (blk_on hb3 hbx.out)
  clear hb3
  replace hg := hide hg
  iterate 1 (refine wpList_plain rfl fun K hK => ?_; go_simp; refine hK _ _ ?_; clear hK K)
  refine wpList_nil ?_
  have hc0 := (blk_cell hg.out 0).trans hy0
  have hc12 := (blk_cell hg.out 12).trans hy12
  have hcb := blk_cell hbx.out
  clear hy0 hy12
  have hk' : min (n : Int) (max most 0) = (k : Int) := hk.out.symm
  have hkc : (k : Int) ≤ (c : Int) := by omega
  have hkl : (xs.take k).length = k := by rw [List.length_take, hx.out.1]; omega
  replace hkl := hide hkl
  go_upto_region 10 with fail
  clear hk' hc0 hc12
  have hc2 := (blk_cell hg.out 2).trans hy2
  have hc3 := (blk_cell hg.out 3).trans hy3
  have hc4 := (blk_cell hg.out 4).trans hy4
  clear hcb
  go_wp2_with fail
  have hq := (hx.out.on hB.out).take hkn
  refine (Icmp.bytes_yes 3 0 0 A k c none 0 0 (xs.take k) [] _ (by omega) (by omega) (by omega) hq (IsB.nil _ _ _) (by omega) (by unfold maxLen; omega)).mono ?_
  rintro e w4 ⟨v4, rfl, hown4, hb4⟩
  replace hB := hide (hB.out.trans (hb4.mono hB.out.size))
  replace hbx := hide (blk_on hb4 hbx.out)
  replace hg := hide (blk_on hb4 hg.out)
  clear hb4
  obtain ⟨A4, c4, rfl, hcc4, hm4, hi4⟩ := hown4.form
  have hml := Icmp.msgB_length [] 3 0 0 (xs.take k)
  rw [hkl.out] at hml
  clear hown4 hq hc2 hc3 hc4
  have hc2 := (blk_cell hg.out 2).trans hy2
  have hc3 := (blk_cell hg.out 3).trans hy3
  have hc4 := (blk_cell hg.out 4).trans hy4
  have hcb := blk_cell hbx.out
  rw [hM.out] at hi4 hcc4 hml ⊢
  rw [hml'.out] at hi4 hcc4 hml ⊢
  have hput := fun w : World => four_put ttl fhi flo shi slo 1 (by omega) A4 ml c4 M w
  unfold Four.hdV at hput
  rw [show ((1 : Nat) : Int) = 1 from rfl] at hput
  have hml2 : ml ≤ 4096 := by omega
  replace hi4 := hide hi4
  replace hput := hide hput
  replace hml := hide hml
  go_upto_region 11 with fail
  go_wp2_with fail
  refine (hput.out _ hi4.out hml2).mono ?_
  rintro e w5 h5
  have h6 := h5.from hB.out
  obtain ⟨v5, rfl, h7, h8, h9⟩ := h6
  clear h5
  replace h7 := hide h7
  replace h8 := hide h8
  replace h9 := hide h9
  go_wp2_with fail
  go_ret2
  exact ⟨v5, rfl, h7.out, h8.out, h9.out⟩
set_option maxRecDepth 20000 in
set_option maxHeartbeats 8000000 in
theorem unreach_six (fhi flo : Nat) (ttl : Int) (n : Nat) (xs : List UInt8) (most : Int) (k : Nat) (hk : (k : Int) = min (n : Int) (max most 0)) (y : Array Value) (shi slo : Nat) (hy0 : y[0]? = some (.bool true)) (hy12 : y[12]? = some (.bool false)) (hy2 : y[2]? = some (.bool true)) (hy3 : y[3]? = some (.int .u64 (shi : Int))) (hy4 : y[4]? = some (.int .u64 (slo : Int)))
    (hys : y.size = 23) (hyo : y.all (·.oneCell') = true) (A : Option Addr) (c : Nat) (w : World) (hx : IsB w w.heap.size A n xs) (hnc : n ≤ c) (hcm : c ≤ maxLen) (hn : n ≤ 4000) (b1 : fhi < 18446744073709551616) (b2 : flo < 18446744073709551616) (b3 : shi < 18446744073709551616) (b4 : slo < 18446744073709551616)
    (hP : ∀ w : World, IsB w w.heap.size A n xs → Calls Try.prog 29 #[.slice A n c] w fun e w' => End2 0 y w w' e) :
    Calls Try.prog 37 #[.agg #[.bool true, .int .u64 (fhi : Int), .int .u64 (flo : Int)], .int .i64 ttl, .slice A n c, .int .i64 most] w fun e w' =>
      InEnd (ttlK ttl) (Six.allB6 0 0 ttl.toNat fhi flo shi slo 58 [] (Icmp.msgB (Six.pseudoB fhi flo shi slo (8 + k) 58) 1 0 0 (xs.take k))) w w' e := by
  obtain ⟨w1, hw1⟩ : ∃ w1, w.alloc (.cells #[.bool true, .int .u64 (fhi : Int), .int .u64 (flo : Int)] 26) = w1 := ⟨_, rfl⟩
  have hB : Below w.heap.size w w1 := hw1 ▸ (Below.refl _ _).alloc (Nat.le_refl _) _
  have hbx : w1.heap[w.heap.size]? = some (.cells #[.bool true, .int .u64 (fhi : Int), .int .u64 (flo : Int)] 26 (0, 0)) := hw1 ▸ blk_new _ _ _
  have hkn : k ≤ n := by omega
  obtain ⟨M, hM⟩ : ∃ M, Icmp.msgB (Six.pseudoB fhi flo shi slo (8 + k) 58) 1 0 0 (xs.take k) = M := ⟨_, rfl⟩
  obtain ⟨ml, hml'⟩ : ∃ ml, M.length = ml := ⟨_, rfl⟩
  rw [hM]
  replace hx := hide hx
  replace hP := hide hP
  replace hyo := hide hyo
  replace hk := hide hk
  replace hM := hide hM
  replace hml' := hide hml'
  replace hB := hide hB
  replace hbx := hide hbx
  go_enter Try.func37, Try.ntmps37
  go_upto_region 1 with fail
  clear hw1
  apply wp_region_lit
  iterate 1 (refine wpList_plain rfl fun K hK => ?_; go_simp; refine hK _ _ ?_; clear hK K)
  refine wpList_plain rfl fun K hK => ?_
  go_simp
  refine ((hP.out _ (hx.out.on hB.out))).mono ?_
  rintro e w2 hE
  obtain ⟨z, rfl, -, -, hz, hb2⟩ := hE.letter (fun _ => ⟨hys, hyo.out⟩)
  rw [if_pos rfl] at hz
  subst hz
  replace hB := hide (hB.out.trans (hb2.mono hB.out.size))
  replace hbx := hide (blk_on hb2 hbx.out)
  clear hb2
  have z2 := hB.out.size
  clear hE
  go_simp
  refine hK _ _ ?_
  clear hK K
  iterate 3 (refine wpList_plain rfl fun K hK => ?_; go_simp; refine hK _ _ ?_; clear hK K)
  refine wpl_new rfl rfl 58 _ (alloc_pk _ rfl) 10 rfl (.tmp 20) rfl _ (fun _ => rfl) (fun _ => rfl) (by rw [pkZ_size]; exact hys) (by rw [size_pk, hys]) hyo.out ?_
  intro w3 hg hb3 hz3
  replace hB := hide (hB.out.trans (hb3.mono hB.out.size))
  replace hbx := hide (blk_on hb3 hbx.out)
  clear hb3
  replace hg := hide hg
  iterate 1 (refine wpList_plain rfl fun K hK => ?_; go_simp; refine hK _ _ ?_; clear hK K)
  refine wpList_nil ?_
  have hc0 := (blk_cell hg.out 0).trans hy0
  have hc12 := (blk_cell hg.out 12).trans hy12
  have hcb := blk_cell hbx.out
  clear hy0 hy12
  have hk' : min (n : Int) (max most 0) = (k : Int) := hk.out.symm
  have hkc : (k : Int) ≤ (c : Int) := by omega
  have hkl : (xs.take k).length = k := by rw [List.length_take, hx.out.1]; omega
  replace hkl := hide hkl
  go_upto_region 8 with fail
  clear hk' hc0 hc12
  have hc2 := (blk_cell hg.out 2).trans hy2
  have hc3 := (blk_cell hg.out 3).trans hy3
  have hc4 := (blk_cell hg.out 4).trans hy4
  have hpl : (Six.pseudoB fhi flo shi slo (8 + k) 58).length = 40 := ps6_even fhi flo shi slo (8 + k) 58
  obtain ⟨pb, hpb⟩ : ∃ pb, Six.pseudoB fhi flo shi slo (8 + k) 58 = pb := ⟨_, rfl⟩
  have hps := fun w : World => Six.pseudo_any true fhi flo true shi slo 58 (8 + (k : Int)) 58 (8 + k) (by omega) (by rw [IntKind.wrap_u64]; omega) w b1 b2 b3 b4 (by omega)
  rw [hpb] at hps hpl
  have hM2 := hM.out
  rw [hpb] at hM2
  replace hM := hide hM2
  clear hM2
  replace hps := hide hps
  replace hpb := hide hpb
  replace hpl := hide hpl
  go_wp2_with fail
  refine (hps.out _).mono ?_
  rintro e wp ⟨vp, rfl, hownp, hbp⟩
  replace hB := hide (hB.out.trans (hbp.mono hB.out.size))
  replace hbx := hide (blk_on hbp hbx.out)
  replace hg := hide (blk_on hbp hg.out)
  clear hbp
  obtain ⟨Ap, cp, rfl, hccp, hmp, hip⟩ := hownp.form
  rw [hpl.out] at hip hccp ⊢
  clear hcb hc2 hc3 hc4 hownp
  have hq := (hx.out.on hB.out).take hkn
  go_wp2_with fail
  refine (Icmp.bytes_yes 1 0 0 A k c Ap 40 cp (xs.take k) pb _ (by omega) (by omega) (by omega) hq hip (by omega) (by unfold maxLen; omega)).mono ?_
  rintro e w4 ⟨v4, rfl, hown4, hb4⟩
  replace hB := hide (hB.out.trans (hb4.mono hB.out.size))
  replace hbx := hide (blk_on hb4 hbx.out)
  replace hg := hide (blk_on hb4 hg.out)
  clear hb4
  obtain ⟨A4, c4, rfl, hcc4, hm4, hi4⟩ := hown4.form
  have hml := Icmp.msgB_length pb 1 0 0 (xs.take k)
  rw [hkl.out] at hml
  clear hown4 hq hip
  have hc2 := (blk_cell hg.out 2).trans hy2
  have hc3 := (blk_cell hg.out 3).trans hy3
  have hc4 := (blk_cell hg.out 4).trans hy4
  have hcb := blk_cell hbx.out
  rw [hM.out] at hi4 hcc4 hml ⊢
  rw [hml'.out] at hi4 hcc4 hml ⊢
  have hput := fun w : World => six_put ttl fhi flo shi slo 58 (by omega) (by decide) A4 ml c4 M w
  unfold Six.hdV at hput
  rw [show ((58 : Nat) : Int) = 58 from rfl] at hput
  have hml2 : ml ≤ 4096 := by omega
  replace hi4 := hide hi4
  replace hput := hide hput
  replace hml := hide hml
  go_upto_region 9 with fail
  go_wp2_with fail
  refine (hput.out _ hi4.out hcc4 hm4 hml2 b1 b2 b3 b4).mono ?_
  rintro e w5 h5
  have h6 := h5.from hB.out
  obtain ⟨v5, rfl, h7, h8, h9⟩ := h6
  clear h5
  replace h7 := hide h7
  replace h8 := hide h8
  replace h9 := hide h9
  go_wp2_with fail
  go_ret2
  exact ⟨v5, rfl, h7.out, h8.out, h9.out⟩
set_option maxRecDepth 20000 in
set_option maxHeartbeats 8000000 in
theorem unreach_no (fv : Bool) (fhi flo : Int) (ttl : Int) (n : Nat) (xs : List UInt8) (most : Int) (y : Array Value) (v6 er : Bool) (hy0 : y[0]? = some (.bool v6)) (hy12 : y[12]? = some (.bool er)) (hne : fv ≠ v6 ∨ er = true) (U : List UInt8)
    (hys : y.size = 23) (hyo : y.all (·.oneCell') = true) (A : Option Addr) (c : Nat) (w : World) (hx : IsB w w.heap.size A n xs)
    (hP : ∀ w : World, IsB w w.heap.size A n xs → Calls Try.prog 29 #[.slice A n c] w fun e w' => End2 0 y w w' e) :
    Calls Try.prog 37 #[.agg #[.bool fv, .int .u64 fhi, .int .u64 flo], .int .i64 ttl, .slice A n c, .int .i64 most] w fun e w' => InEnd 1 U w w' e := by
  obtain ⟨w1, hw1⟩ : ∃ w1, w.alloc (.cells #[.bool fv, .int .u64 fhi, .int .u64 flo] 26) = w1 := ⟨_, rfl⟩
  have hB : Below w.heap.size w w1 := hw1 ▸ (Below.refl _ _).alloc (Nat.le_refl _) _
  have hbx : w1.heap[w.heap.size]? = some (.cells #[.bool fv, .int .u64 fhi, .int .u64 flo] 26 (0, 0)) := hw1 ▸ blk_new _ _ _
  replace hx := hide hx
  replace hP := hide hP
  replace hyo := hide hyo
  replace hB := hide hB
  replace hbx := hide hbx
  go_enter Try.func37, Try.ntmps37
  go_upto_region 1 with fail
  clear hw1
  apply wp_region_lit
  iterate 1 (refine wpList_plain rfl fun K hK => ?_; go_simp; refine hK _ _ ?_; clear hK K)
  refine wpList_plain rfl fun K hK => ?_
  go_simp
  refine ((hP.out _ (hx.out.on hB.out))).mono ?_
  rintro e w2 hE
  obtain ⟨z, rfl, -, -, hz, hb2⟩ := hE.letter (fun _ => ⟨hys, hyo.out⟩)
  rw [if_pos rfl] at hz
  subst hz
  replace hB := hide (hB.out.trans (hb2.mono hB.out.size))
  replace hbx := hide (blk_on hb2 hbx.out)
  clear hb2
  clear hE
  go_simp
  refine hK _ _ ?_
  clear hK K
  iterate 3 (refine wpList_plain rfl fun K hK => ?_; go_simp; refine hK _ _ ?_; clear hK K)
  refine wpl_new rfl rfl 58 _ (alloc_pk _ rfl) 10 rfl (.tmp 20) rfl _ (fun _ => rfl) (fun _ => rfl) (by rw [pkZ_size]; exact hys) (by rw [size_pk, hys]) hyo.out ?_
  intro w3 hg hb3 hz3
  replace hB := hide (hB.out.trans (hb3.mono hB.out.size))
  replace hbx := hide (blk_on hb3 hbx.out)
  clear hb3
  replace hg := hide hg
  iterate 1 (refine wpList_plain rfl fun K hK => ?_; go_simp; refine hK _ _ ?_; clear hK K)
  refine wpList_nil ?_
  have hc0 := (blk_cell hg.out 0).trans hy0
  have hc12 := (blk_cell hg.out 12).trans hy12
  have hcb := blk_cell hbx.out
  have hfin := InEnd.no U (show 1 ≠ 0 by decide) hB.out
  clear hy0 hy12
  replace hfin := hide hfin
  rcases hne with hne | rfl
  · have t1 : (fv != v6) = true := by rw [bne_iff_ne]; exact hne
    clear hne
    rcases fv with _ | _
    · rcases v6 with _ | _
      · cases t1
      · go_wp2_with fail
        go_ret2
        exact hfin.out
    · rcases v6 with _ | _
      · go_wp2_with fail
        go_ret2
        exact hfin.out
      · cases t1
  · rcases fv with _ | _
    · rcases v6 with _ | _
      · go_wp2_with fail
        go_ret2
        exact hfin.out
      · go_wp2_with fail
        go_ret2
        exact hfin.out
    · rcases v6 with _ | _
      · go_wp2_with fail
        go_ret2
        exact hfin.out
      · go_wp2_with fail
        go_ret2
        exact hfin.out
end Pkt
end Go.Proofs.Ytdmgbngdpjcliaa
