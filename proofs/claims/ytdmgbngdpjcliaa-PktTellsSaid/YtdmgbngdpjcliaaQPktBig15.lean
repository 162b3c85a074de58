/- pkt.parse6, by contract: a packet of version 6. Conditions: what six.Parse makes of the bytes, and what upper makes of what is behind. -/
import Derived.Test.YtdmgbngdpjcliaaQPktBig14
import Derived.Test.YtdmgbngdpjcliaaQPktBig4
import Derived.Test.YtdmgbngdpjcliaaQPktBig13
import Derived.Test.YtdmgbngdpjcliaaQPktBig10
import Derived.Test.YtdmgbngdpjcliaaQPktBig3
namespace Go.Proofs.Ytdmgbngdpjcliaa
open Go.RowKit Go.ChangeShapes Go.WideShapes Go.ChangeAt Go.Deep
namespace Pkt
/-- A packet of version 6 without what is behind its header. -/
def p6A (proto sh sl dh dl ho sz : Nat) : Array Value := #[.bool true, .int .i64 (proto : Int), .bool true, .int .u64 (sh : Int), .int .u64 (sl : Int), .bool true, .int .u64 (dh : Int), .int .u64 (dl : Int), .int .i64 0, .int .i64 0, .int .i64 (ho : Int), .int .i64 0, .bool false, .int .i64 0, .bool false, .int .u64 0, .int .u64 0, .bool false, .int .u64 0, .int .u64 0, .int .i64 0, .int .i64 0, .int .i64 (sz : Int)]
theorem p6A_one (proto sh sl dh dl ho sz : Nat) : (p6A proto sh sl dh dl ho sz).all (·.oneCell') = true := all_oneCell_toArray (by
  intro v hv
  simp only [List.mem_cons, List.not_mem_nil, or_false] at hv
  rcases hv with rfl | rfl | rfl | rfl | rfl | rfl | rfl | rfl | rfl | rfl | rfl | rfl | rfl | rfl | rfl | rfl | rfl | rfl | rfl | rfl | rfl | rfl | rfl <;> rfl)
set_option maxRecDepth 20000 in
set_option maxHeartbeats 16000000 in
theorem parse6_ok (n : Nat) (xs : List UInt8) (cl la ho sh sl dh dl : Nat) (acc : List (Int × List UInt8)) (proto m1 : Nat) (rest : List UInt8) (hF : Tun.SixIs n xs 0 cl la ho true sh sl true dh dl acc proto m1 rest) (hac : acc.length ≤ 8) (hal : ∀ e ∈ acc, e.2.length ≤ 2047) (hf0 : Six.fragP acc = 0) (hm0 : Six.moreP acc = false) (hmm : m1 ≤ 1099511627776) (hpr : proto ≤ 255) (hsh : sh < 18446744073709551616) (hsl : sl < 18446744073709551616) (hdh : dh < 18446744073709551616) (hdl : dl < 18446744073709551616) (hrm : rest.length = m1)
    (T : Nat) (hT : 40 + Six.sumP acc = T) (KK : Nat) (y : Array Value) (hU : UpIs (p6A proto sh sl dh dl ho (T + m1)) 58 rest (Six.pseudoB sh sl dh dl m1 proto) KK y) (hy : KK = 0 → y.size = 23 ∧ y.all (·.oneCell') = true)
    (A : Option Addr) (c : Nat) (w : World) (hx : IsB w w.heap.size A n xs) (hnc : n ≤ c) (hcm : c ≤ maxLen) :
    Calls Try.prog 59 #[.slice A n c] w fun e w' => End2 KK y w w' e := by
  obtain ⟨zs, hzs⟩ : ∃ zs, pkZ = zs := ⟨_, rfl⟩
  have hbz : Below w.heap.size w (w.alloc (.cells pkZ 58)) := (Below.refl _ _).alloc (Nat.le_refl _) _
  have hgz := blk_new w 58 pkZ
  obtain ⟨w1, hw1⟩ : ∃ w1, w.alloc (.cells pkZ 58) = w1 := ⟨_, rfl⟩
  have hz1 : w.heap.size < w1.heap.size := by rw [← hw1]; simp
  rw [hw1] at hbz hgz
  rw [hzs] at hgz
  unfold pkZ at hw1
  have hzz : zs.size = 23 := hzs ▸ pkZ_size
  have hFc := hF A c w1 (hx.on hbz) hnc hcm
  replace hx := hide hx
  replace hbz := hide hbz
  replace hgz := hide hgz
  replace hFc := hide hFc
  replace hF := hide hF
  replace hU := hide hU
  replace hzs := hide hzs
  replace hy := hide hy
  go_enter Try.func59, Try.ntmps59
  go_wp2_with fail
  refine hFc.out.mono ?_
  rintro e w2 ⟨X, m, xc, A2, c2, es, rfl, hpe, hX2, hmx, hxm, hi2, hc2, hm2, hb2⟩
  have z2 := hb2.size
  obtain ⟨w3, hw3⟩ : ∃ w3, w2.alloc (Six.hdC (cl : Int) la ho true sh sl true dh dl X m xc proto) = w3 := ⟨_, rfl⟩
  have hb23 : Below w2.heap.size w2 w3 := hw3 ▸ (Below.refl _ _).alloc (Nat.le_refl _) _
  have hgh : w3.heap[w2.heap.size]? = some (Six.hdC (cl : Int) la ho true sh sl true dh dl X m xc proto) := hw3 ▸ blk_new _ _ _
  have hz3 : w2.heap.size < w3.heap.size := by rw [← hw3]; simp
  unfold Six.hdC at hgh hw3
  have hB3 := (hbz.out.trans (hb2.mono (by omega))).trans (hb23.mono (by omega))
  have hg03 := blk_below hb23 (by omega) (blk_below hb2 hz1 hgz.out)
  have hi3 := hi2.on hb23
  have hX3 := hX2.on hb23
  have hel : es.length = m := hX2.1
  have hm8 : m ≤ 8 := by rw [← hel, ← Six.pes_length, hpe]; exact hac
  have hmL : m ≤ maxLen := by unfold maxLen; omega
  have heb : ∀ e ∈ es, e.xs.length ≤ 2047 := fun e he => hal (e.k, e.xs) (by rw [← hpe]; exact List.mem_map.2 ⟨e, he, rfl⟩)
  have hTs : 40 + Six.sumL es = T := by rw [Six.sumL_pes, hpe, hT]
  have hTl : T ≤ 16424 := by
    have := Six.sumP_le acc hal
    omega
  have hfs : beN (Six.partB es) 1 2 / 8 = 0 := by rw [Six.pes_frag, hpe, hf0]
  have hms : Six.moreP (Six.pes es) = false := by rw [hpe, hm0]
  have hch := blk_cell hgh
  clear hw1 hb2 hb23 hi2
  unfold Six.hdV
  replace hgh := hide hgh
  replace hB3 := hide hB3
  replace hg03 := hide hg03
  replace hi3 := hide hi3
  replace hX3 := hide hX3
  replace heb := hide heb
  replace hTs := hide hTs
  replace hfs := hide hfs
  replace hms := hide hms
  replace hac := hide hac
  replace hal := hide hal
  replace hpe := hide hpe
  clear hX2 hf0 hm0
  go_wp2_with fail
  refine (Six.frag_any (cl : Int) la ho true sh sl true dh dl X m xc proto es _ hX3.out hmL).mono ?_
  rintro e wf ⟨rfl, hbf⟩
  rw [hfs.out]
  have hXf := hX3.out.on hbf
  have hghf := blk_below hbf hz3 hgh.out
  have hchf := blk_cell hghf
  have hgf0 := blk_below hbf (by omega) hg03.out
  have hBf := hB3.out.trans (hbf.mono (by omega))
  have hif := hi3.out.on hbf
  have hzf := hbf.size
  clear hw3 hch hbf hB3 hg03 hi3 hX3
  replace hXf := hide hXf
  replace hghf := hide hghf
  replace hgf0 := hide hgf0
  replace hBf := hide hBf
  replace hif := hide hif
  go_wp2_with fail
  refine (Six.more_any (cl : Int) la ho true sh sl true dh dl X m xc proto es _ hXf.out hmL).mono ?_
  rintro e wm ⟨rfl, hbm⟩
  rw [hms.out]
  have hX3 := hXf.out.on hbm
  have hgh' := blk_below hbm (by omega) hghf.out
  have hchm := blk_cell hgh'
  have hg03 := blk_below hbm (by omega) hgf0.out
  have hB3 := hBf.out.trans (hbm.mono (by omega))
  have hi3 := hif.out.on hbm
  have hzm := hbm.size
  have hz3' : w2.heap.size < wm.heap.size := by omega
  have hB3z : w1.heap.size ≤ wm.heap.size := by omega
  clear hchf hbm hXf hgf0 hBf hif hghf hgh
  have hgh := hgh'
  clear hgh'
  replace hX3 := hide hX3
  replace hgh := hide hgh
  replace hg03 := hide hg03
  replace hB3 := hide hB3
  replace hi3 := hide hi3
  go_upto_region 6 with fail
  clear hchm hz3
  have hz3 := hz3'
  clear hz3'
  go_cut [7] (fun tv wx => ∃ g w5, tv = .pointer (some ⟨g, 0, none⟩) ∧ w5.heap[g]? = some (.cells (p6A proto sh sl dh dl ho (T + m1)) 58 (0, 0)) ∧ wm.heap.size ≤ g ∧ g < w5.heap.size ∧ Below wm.heap.size wm w5 ∧ w5 = wx)
  case first =>
    have hcl := fun (l : Later wm) (o : Nat) => blk_cell (blk_below l.hb hz3 hgh.out) o
    have hln := fun (l : Later wm) => Six.len_any (cl : Int) la ho true sh sl true dh dl X m xc proto es l.w (hX3.out.later l) hm8 heb.out T hTs.out
    replace hln := hide hln
    refine wp_region_L (by as_aux_lemma => kernel_rfl) ?_
    refine wpE_seg 0 15 (fuel := 2) (by as_aux_lemma => kernel_rfl) (fun d _ _ _ _ h => by cases d <;> exact h) (by as_aux_lemma => kernel_rfl) (by as_aux_lemma => kernel_rfl) ?_
    simp only [List.drop_zero, List.take_succ_cons, List.take_zero]
    iterate 10 (refine wpQE_step (fun K hK => ?_); go_simp; refine hK _ ?_; clear hK K)
    (refine wpQE_step (fun K hK => ?_); go_simp; apply Exists.intro; refine ⟨fun l => ?_, hK _ ?_⟩; (go_at_call 51; refine (hln.out l).mono ?_; rintro e w' ⟨rfl, hb⟩; exact ⟨rfl, hb⟩); clear hK K)
    iterate 4 (refine wpQE_step (fun K hK => ?_); go_simp; refine hK _ ?_; clear hK K)
    refine wpQE_nil ?_
    have q1 : IntKind.i64.wrap ((T : Int) + (m1 : Int)) = ((T + m1 : Nat) : Int) := by rw [wraps62 _ (by omega) (by omega)]; omega
    rw [q1]
    clear q1 hcl hln
    refine wpE_step 15 (fuel := 1) rfl (by as_aux_lemma => kernel_rfl) (fun l K hK => ?_)
    go_simp
    have zl := l.hb.size
    have hbl2 : Below l.w.heap.size l.w (l.w.alloc (.cells pkZ 58)) := (Below.refl _ _).alloc (Nat.le_refl _) _
    have hgp := blk_new l.w 58 pkZ
    have hzp : l.w.heap.size < (l.w.alloc (.cells pkZ 58)).heap.size := by simp
    refine hK _ _ hbl2 ?_
    clear hK K
    change wpE _ _ _ _ _ _ _ _ (l.w.alloc (.cells pkZ 58))
    generalize l.w.alloc (.cells pkZ 58) = w4 at hbl2 hgp hzp ⊢
    refine wpE_end (by as_aux_lemma => kernel_rfl) (fun l2 => ?_)
    have zl2 := l2.hb.size
    have hgp2 := blk_below l2.hb hzp hgp
    have hBl : Below wm.heap.size wm l2.w := (l.hb.trans (hbl2.mono zl)).trans (l2.hb.mono (by omega))
    refine wpT_st 16 rfl (by as_aux_lemma => kernel_rfl) rfl 58 (.tmp 7) (.tmp 42) rfl l.w.heap.size 0 rfl (p6A proto sh sl dh dl ho (T + m1)) rfl hgp2 (show 0 + 23 ≤ 23 by omega) size_pk (p6A_one _ _ _ _ _ _ _) fun w5 hg5 g5 => ?_
    rw [putA_whole pkZ (p6A proto sh sl dh dl ho (T + m1)) rfl] at hg5
    have hB5 := hBl.trans (below_grown g5 (by omega) (by omega))
    have z5 := g5.size
    clear g5
    replace hg5 := hide hg5
    replace hB5 := hide hB5
    replace hgp2 := hide hgp2
    replace hgp := hide hgp
    refine wpT_done (by as_aux_lemma => kernel_rfl) ?_ 0
    go_wp2_with fail
    go_meet
    exact ⟨l.w.heap.size, w5, rfl, hg5.out, by omega, by omega, hB5.out, rfl⟩
  case rest =>
  obtain ⟨g, w5, rfl, hg5, hgl, hgl2, hb5, rfl⟩ := hcut
  have z5 := hb5.size
  have hB5 := hB3.out.trans (hb5.mono (by omega))
  have hg05 := blk_below hb5 (by omega) hg03.out
  have hi5 := hi3.out.on hb5
  have hgh5 := blk_below hb5 hz3 hgh.out
  have hcl := fun (l : Later w5) (o : Nat) => blk_cell (blk_below l.hb (by omega) hgh5) o
  have hgl5 := fun (l : Later w5) => blk_below l.hb hgl2 hg5
  have hps := fun (l : Later w5) => Six.pseudo_any true sh sl true dh dl proto m1 proto m1 (by omega) (by rw [IntKind.wrap_u64]; omega) l.w hsh hsl hdh hdl (by omega)
  replace hB5 := hide hB5
  replace hg05 := hide hg05
  replace hi5 := hide hi5
  replace hgh5 := hide hgh5
  replace hg5 := hide hg5
  replace hb5 := hide hb5
  replace hgl5 := hide hgl5
  replace hps := hide hps
  go_upto_region 7 with fail
  refine wp_region_L (by as_aux_lemma => kernel_rfl) ?_
  refine wpE_seg 0 10 (fuel := 6) (by as_aux_lemma => kernel_rfl) (fun d _ _ _ _ h => by cases d <;> exact h) (by as_aux_lemma => kernel_rfl) (by as_aux_lemma => kernel_rfl) ?_
  simp only [List.drop_zero, List.take_succ_cons, List.take_zero]
  refine wpQE_ld rfl 58 (.tmp 7) rfl g rfl (p6A proto sh sl dh dl ho (T + m1)) _ hgl5.out Try.underlying58 rfl size_pk ?_
  generalize hpa : p6A proto sh sl dh dl ho (T + m1) = pa at hU
  iterate 9 (refine wpQE_step (fun K hK => ?_); go_simp; refine hK _ ?_; clear hK K)
  refine wpQE_nil ?_
  clear hcl
  refine wpE_step 10 (fuel := 5) rfl (by as_aux_lemma => kernel_rfl) (fun l K hK => ?_)
  go_simp
  go_at_call 72
  refine (hps.out l).mono ?_
  rintro e w6 ⟨v, rfl, hown, hb6⟩
  refine hK _ _ hb6 ?_
  clear hK K
  obtain ⟨pl, hpl⟩ : ∃ pl, (Six.pseudoB sh sl dh dl m1 proto).length = pl := ⟨_, rfl⟩
  have hown' : OwnB w6 l.w.heap.size v (Six.pseudoB sh sl dh dl m1 proto) := hown
  obtain ⟨A6, c6, rfl, hc6, hm6, hi6⟩ := hown'.form
  rw [hpl] at hi6 hc6 ⊢
  clear hown hown'
  refine wpE_step 11 (fuel := 4) rfl (by as_aux_lemma => kernel_rfl) (fun l2 K hK => ?_)
  go_simp
  have zl := l.hb.size
  have z6 := hb6.size
  have zl2 := l2.hb.size
  have hbw : Below w5.heap.size w5 l2.w := (l.hb.trans (hb6.mono zl)).trans (l2.hb.mono (by omega))
  have hUc := hU.out A2 A6 c2 c6 l2.w (by rw [hrm]; exact hi5.out.on hbw) (by rw [hpl]; exact hi6.on l2.hb) (by omega) hm2
  rw [hrm, hpl] at hUc
  have hg0l := blk_below hbw (by omega) hg05.out
  have hBl := hB5.out.trans (hbw.mono (by omega))
  clear hb6 hi6
  replace hUc := hide hUc
  replace hg0l := hide hg0l
  replace hBl := hide hBl
  replace hpl := hide hpl
  replace hpa := hide hpa
  replace hbw := hide hbw
  go_at_call 85
  refine hUc.out.mono ?_
  rintro e w7 ⟨rfl, hb7⟩
  obtain ⟨z, hz, hzs2, hzo⟩ : ∃ z, (if KK = 0 then y else pkZ) = z ∧ z.size = 23 ∧ z.all (·.oneCell') = true := by
    by_cases h : KK = 0
    · exact ⟨y, by rw [if_pos h], hy.out h⟩
    · exact ⟨pkZ, by rw [if_neg h], pkZ_size, pkZ_one⟩
  rw [hz]
  refine hK _ _ hb7 ?_
  clear hK K
  refine wpE_seg 12 2 (fuel := 2) (by as_aux_lemma => kernel_rfl) (fun d _ _ _ _ h => by cases d <;> exact h) (by as_aux_lemma => kernel_rfl) (by as_aux_lemma => kernel_rfl) ?_
  simp only [List.drop_succ_cons, List.drop_zero, List.take_succ_cons, List.take_zero]
  iterate 2 (refine wpQE_step (fun K hK => ?_); go_simp; refine hK _ ?_; clear hK K)
  refine wpQE_nil ?_
  refine wpE_end (by as_aux_lemma => kernel_rfl) (fun l3 => ?_)
  have z7 := hb7.size
  have zl3 := l3.hb.size
  have hg07 := blk_below l3.hb (by omega) (blk_below hb7 (by omega) hg0l.out)
  have hB7 := (hBl.out.trans (hb7.mono (by omega))).trans (l3.hb.mono (by omega))
  clear hb7
  replace hg07 := hide hg07
  replace hB7 := hide hB7
  replace hzo := hide hzo
  replace hz := hide hz
  refine wpT_st 14 rfl (by as_aux_lemma => kernel_rfl) rfl 58 (.tmp 2) (.tmp 55) rfl w.heap.size 0 rfl z rfl hg07.out (by rw [hzz, hzs2]; omega) (by rw [size_pk, hzs2]) hzo.out fun w9 hg9 g9 => ?_
  rw [putA_whole _ _ (by rw [hzz, hzs2])] at hg9
  have hB9 := hB7.out.trans (below_grown g9 (by omega) (by omega))
  have hld : (loadVar 58 ⟨w.heap.size, 0, none⟩).run Try.prog w9 = .ok (.agg z) w9 := by
    simpa using run_loadVar_mid w9 w.heap.size 0 58 z.toList _ (blk_range hg9) Try.underlying58 rfl (by rw [size_pk, Array.length_toList, hzs2])
  have hfin : End2 KK y w w9 (.returned (.tuple #[.agg z, .int .i64 (KK : Int)])) := ⟨by rw [hz.out], hB9⟩
  clear g9
  replace hg9 := hide hg9
  replace hB9 := hide hB9
  replace hfin := hide hfin
  replace hld := hide hld
  refine wpT_step 15 rfl (by as_aux_lemma => kernel_rfl) (fun K hK => ?_)
  go_simp
  refine hK _ _ ?_
  clear hK K
  refine wpT_done (by as_aux_lemma => kernel_rfl) ?_ 0
  go_wp2_with fail
  exact bodyPost_ret (v := .tuple #[.agg z, .int .i64 (KK : Int)]) (by simp [results, Try.results59, asAddr, hld.out, Result.andThen]) rfl hfin.out
set_option maxRecDepth 20000 in
set_option maxHeartbeats 16000000 in
theorem parse6_bad (n : Nat) (xs : List UInt8) (KK : Nat) (hK0 : KK ≠ 0) (hF : Tun.SixIs n xs KK 0 0 0 false 0 0 false 0 0 [] 0 0 []) (y : Array Value)
    (A : Option Addr) (c : Nat) (w : World) (hx : IsB w w.heap.size A n xs) (hnc : n ≤ c) (hcm : c ≤ maxLen) :
    Calls Try.prog 59 #[.slice A n c] w fun e w' => End2 KK y w w' e := by
  have t1 : ((KK : Int) == 0) = false := by rw [beq_eq_false_iff_ne]; omega
  obtain ⟨zs, hzs⟩ : ∃ zs, pkZ = zs := ⟨_, rfl⟩
  have hbz : Below w.heap.size w (w.alloc (.cells pkZ 58)) := (Below.refl _ _).alloc (Nat.le_refl _) _
  have hgz := blk_new w 58 pkZ
  obtain ⟨w1, hw1⟩ : ∃ w1, w.alloc (.cells pkZ 58) = w1 := ⟨_, rfl⟩
  have hz1 : w.heap.size < w1.heap.size := by rw [← hw1]; simp
  rw [hw1] at hbz hgz
  rw [hzs] at hgz
  unfold pkZ at hw1
  have hzz : zs.size = 23 := hzs ▸ pkZ_size
  have hFc := hF A c w1 (hx.on hbz) hnc hcm
  replace hx := hide hx
  replace hbz := hide hbz
  replace hgz := hide hgz
  replace hFc := hide hFc
  replace hF := hide hF
  replace hzs := hide hzs
  go_enter Try.func59, Try.ntmps59
  go_wp2_with fail
  refine hFc.out.mono ?_
  rintro e w2 ⟨X, m, xc, A2, c2, es, he, _, _, _, _, _, _, _, hb2⟩
  obtain ⟨z0, hz0⟩ : ∃ z0 : Int, ((0 : Nat) : Int) = z0 := ⟨_, rfl⟩
  obtain rfl : e = .returned (.tuple #[Six.hdV 0 0 0 false 0 0 false 0 0 X m xc z0, .slice A2 0 c2, .int .i64 (KK : Int)]) := by rw [← hz0]; exact he
  clear hz0
  have z2 := hb2.size
  obtain ⟨w3, hw3⟩ : ∃ w3, w2.alloc (Six.hdC 0 0 0 false 0 0 false 0 0 X m xc z0) = w3 := ⟨_, rfl⟩
  have hb23 : Below w2.heap.size w2 w3 := hw3 ▸ (Below.refl _ _).alloc (Nat.le_refl _) _
  have hgh : w3.heap[w2.heap.size]? = some (Six.hdC 0 0 0 false 0 0 false 0 0 X m xc z0) := hw3 ▸ blk_new _ _ _
  have hz3 : w2.heap.size < w3.heap.size := by rw [← hw3]; simp
  unfold Six.hdC at hgh hw3
  have hB3 := (hbz.out.trans (hb2.mono (by omega))).trans (hb23.mono (by omega))
  have hg03 := blk_below hb23 (by omega) (blk_below hb2 hz1 hgz.out)
  have hch := blk_cell hgh
  clear hw1 hb2 hb23
  unfold Six.hdV
  replace hgh := hide hgh
  replace hB3 := hide hB3
  replace hg03 := hide hg03
  go_upto_region 3 with fail
  clear hw3 hch
  apply wp_region_lit
  refine wpList_plain rfl fun K hK => ?_
  go_simp
  refine hK _ _ ?_
  clear hK K
  refine wpList_plain rfl fun K hK => ?_
  go_simp
  refine hK _ _ ?_
  clear hK K
  refine wpl_st rfl 58 (.tmp 2) (.tmp 17) rfl w.heap.size 0 rfl pkZ rfl hg03.out (by rw [hzz, pkZ_size]; omega) size_pk pkZ_one fun w9 hg9 g9 => ?_
  rw [putA_whole _ _ (by rw [hzz, pkZ_size])] at hg9
  have hB9 := hB3.out.trans (below_grown g9 (by omega) (by omega))
  have hld : (loadVar 58 ⟨w.heap.size, 0, none⟩).run Try.prog w9 = .ok (.agg pkZ) w9 := by
    simpa using run_loadVar_mid w9 w.heap.size 0 58 pkZ.toList _ (blk_range hg9) Try.underlying58 rfl (by rw [size_pk, Array.length_toList, pkZ_size])
  have hfin := end_bad (y := y) KK hK0 hB9
  clear g9
  replace hg9 := hide hg9
  replace hB9 := hide hB9
  replace hfin := hide hfin
  replace hld := hide hld
  refine wpList_plain rfl fun K hK => ?_
  go_simp
  refine hK _ _ ?_
  clear hK K
  refine wpList_nil ?_
  go_wp2_with fail
  exact bodyPost_ret (v := .tuple #[.agg pkZ, .int .i64 (KK : Int)]) (by simp [results, Try.results59, asAddr, hld.out, Result.andThen]) rfl hfin.out
set_option maxRecDepth 20000 in
set_option maxHeartbeats 16000000 in
theorem parse6_frag (n : Nat) (xs : List UInt8) (cl la ho sh sl dh dl : Nat) (acc : List (Int × List UInt8)) (proto m1 : Nat) (rest : List UInt8) (hF : Tun.SixIs n xs 0 cl la ho true sh sl true dh dl acc proto m1 rest) (hac : acc.length ≤ 8) (hfr : 0 < Six.fragP acc ∨ Six.moreP acc = true) (y : Array Value)
    (A : Option Addr) (c : Nat) (w : World) (hx : IsB w w.heap.size A n xs) (hnc : n ≤ c) (hcm : c ≤ maxLen) :
    Calls Try.prog 59 #[.slice A n c] w fun e w' => End2 21 y w w' e := by
  obtain ⟨zs, hzs⟩ : ∃ zs, pkZ = zs := ⟨_, rfl⟩
  have hbz : Below w.heap.size w (w.alloc (.cells pkZ 58)) := (Below.refl _ _).alloc (Nat.le_refl _) _
  have hgz := blk_new w 58 pkZ
  obtain ⟨w1, hw1⟩ : ∃ w1, w.alloc (.cells pkZ 58) = w1 := ⟨_, rfl⟩
  have hz1 : w.heap.size < w1.heap.size := by rw [← hw1]; simp
  rw [hw1] at hbz hgz
  rw [hzs] at hgz
  unfold pkZ at hw1
  have hzz : zs.size = 23 := hzs ▸ pkZ_size
  have hFc := hF A c w1 (hx.on hbz) hnc hcm
  replace hx := hide hx
  replace hbz := hide hbz
  replace hgz := hide hgz
  replace hFc := hide hFc
  replace hF := hide hF
  replace hzs := hide hzs
  replace hfr := hide hfr
  go_enter Try.func59, Try.ntmps59
  go_wp2_with fail
  refine hFc.out.mono ?_
  rintro e w2 ⟨X, m, xc, A2, c2, es, rfl, hpe, hX2, hmx, hxm, hi2, hc2, hm2, hb2⟩
  have z2 := hb2.size
  obtain ⟨w3, hw3⟩ : ∃ w3, w2.alloc (Six.hdC (cl : Int) la ho true sh sl true dh dl X m xc proto) = w3 := ⟨_, rfl⟩
  have hb23 : Below w2.heap.size w2 w3 := hw3 ▸ (Below.refl _ _).alloc (Nat.le_refl _) _
  have hgh : w3.heap[w2.heap.size]? = some (Six.hdC (cl : Int) la ho true sh sl true dh dl X m xc proto) := hw3 ▸ blk_new _ _ _
  have hz3 : w2.heap.size < w3.heap.size := by rw [← hw3]; simp
  unfold Six.hdC at hgh hw3
  have hB3 := (hbz.out.trans (hb2.mono (by omega))).trans (hb23.mono (by omega))
  have hg03 := blk_below hb23 (by omega) (blk_below hb2 hz1 hgz.out)
  have hX3 := hX2.on hb23
  have hel : es.length = m := hX2.1
  have hm8 : m ≤ 8 := by rw [← hel, ← Six.pes_length, hpe]; exact hac
  have hmL : m ≤ maxLen := by unfold maxLen; omega
  have hms : Six.moreP (Six.pes es) = Six.moreP acc := by rw [hpe]
  obtain ⟨f, hf⟩ : ∃ f, Six.fragP acc = f := ⟨_, rfl⟩
  have hfs : beN (Six.partB es) 1 2 / 8 = f := by rw [Six.pes_frag, hpe, hf]
  obtain ⟨mo, hmo⟩ : ∃ mo, Six.moreP acc = mo := ⟨_, rfl⟩
  have hfr' := hfr.out
  rw [hf, hmo] at hfr'
  rw [hmo] at hms
  have hch := blk_cell hgh
  clear hX2 hb2 hb23 hw1
  unfold Six.hdV
  replace hgh := hide hgh
  replace hB3 := hide hB3
  replace hg03 := hide hg03
  replace hX3 := hide hX3
  replace hms := hide hms
  replace hfs := hide hfs
  replace hac := hide hac
  replace hpe := hide hpe
  replace hf := hide hf
  replace hmo := hide hmo
  by_cases hf0 : 0 < f
  · have t2 : (0 : Int) < (f : Int) := by omega
    go_wp2_with fail
    refine (Six.frag_any (cl : Int) la ho true sh sl true dh dl X m xc proto es _ hX3.out hmL).mono ?_
    rintro e wf ⟨rfl, hbf⟩
    rw [hfs.out]
    have hg4 := blk_below hbf (by omega) hg03.out
    have hB4 := hB3.out.trans (hbf.mono (by omega))
    have hzf := hbf.size
    clear hw3 hch hbf hB3 hg03
    replace hg4 := hide hg4
    replace hB4 := hide hB4
    go_upto_region 5 with fail
    apply wp_region_lit
    refine wpList_plain rfl fun K hK => ?_
    go_simp
    refine hK _ _ ?_
    clear hK K
    refine wpl_st rfl 58 (.tmp 2) (.tmp 27) rfl w.heap.size 0 rfl pkZ rfl hg4.out (by rw [hzz, pkZ_size]; omega) size_pk pkZ_one fun w9 hg9 g9 => ?_
    rw [putA_whole _ _ (by rw [hzz, pkZ_size])] at hg9
    have hB9 := hB4.out.trans (below_grown g9 (by omega) (by omega))
    have hld : (loadVar 58 ⟨w.heap.size, 0, none⟩).run Try.prog w9 = .ok (.agg pkZ) w9 := by
      simpa using run_loadVar_mid w9 w.heap.size 0 58 pkZ.toList _ (blk_range hg9) Try.underlying58 rfl (by rw [size_pk, Array.length_toList, pkZ_size])
    have hfin := end_bad (y := y) 21 (by omega) hB9
    clear g9
    replace hg9 := hide hg9
    replace hB9 := hide hB9
    replace hfin := hide hfin
    replace hld := hide hld
    refine wpList_plain rfl fun K hK => ?_
    go_simp
    refine hK _ _ ?_
    clear hK K
    refine wpList_nil ?_
    go_wp2_with fail
    exact bodyPost_ret (v := .tuple #[.agg pkZ, .int .i64 (21 : Int)]) (by simp [results, Try.results59, asAddr, hld.out, Result.andThen]) rfl hfin.out
  · have t2 : ¬ (0 : Int) < (f : Int) := by omega
    obtain rfl : mo = true := by rcases hfr' with h | h; exact absurd h hf0; exact h
    go_wp2_with fail
    refine (Six.frag_any (cl : Int) la ho true sh sl true dh dl X m xc proto es _ hX3.out hmL).mono ?_
    rintro e wf ⟨rfl, hbf⟩
    rw [hfs.out]
    have hXf := hX3.out.on hbf
    have hghf := blk_below hbf hz3 hgh.out
    have hchf := blk_cell hghf
    have hgf0 := blk_below hbf (by omega) hg03.out
    have hBf := hB3.out.trans (hbf.mono (by omega))
    have hzf := hbf.size
    clear hw3 hch hbf hB3 hg03 hX3
    replace hXf := hide hXf
    replace hghf := hide hghf
    replace hgf0 := hide hgf0
    replace hBf := hide hBf
    go_wp2_with fail
    refine (Six.more_any (cl : Int) la ho true sh sl true dh dl X m xc proto es _ hXf.out hmL).mono ?_
    rintro e wm ⟨rfl, hbm⟩
    rw [hms.out]
    have hg4 := blk_below hbm (by omega) hgf0.out
    have hB4 := hBf.out.trans (hbm.mono (by omega))
    have hzm := hbm.size
    clear hchf hbm hXf hgf0 hBf
    replace hg4 := hide hg4
    replace hB4 := hide hB4
    go_upto_region 5 with fail
    apply wp_region_lit
    refine wpList_plain rfl fun K hK => ?_
    go_simp
    refine hK _ _ ?_
    clear hK K
    refine wpl_st rfl 58 (.tmp 2) (.tmp 27) rfl w.heap.size 0 rfl pkZ rfl hg4.out (by rw [hzz, pkZ_size]; omega) size_pk pkZ_one fun w9 hg9 g9 => ?_
    rw [putA_whole _ _ (by rw [hzz, pkZ_size])] at hg9
    have hB9 := hB4.out.trans (below_grown g9 (by omega) (by omega))
    have hld : (loadVar 58 ⟨w.heap.size, 0, none⟩).run Try.prog w9 = .ok (.agg pkZ) w9 := by
      simpa using run_loadVar_mid w9 w.heap.size 0 58 pkZ.toList _ (blk_range hg9) Try.underlying58 rfl (by rw [size_pk, Array.length_toList, pkZ_size])
    have hfin := end_bad (y := y) 21 (by omega) hB9
    clear g9
    replace hg9 := hide hg9
    replace hB9 := hide hB9
    replace hfin := hide hfin
    replace hld := hide hld
    refine wpList_plain rfl fun K hK => ?_
    go_simp
    refine hK _ _ ?_
    clear hK K
    refine wpList_nil ?_
    go_wp2_with fail
    exact bodyPost_ret (v := .tuple #[.agg pkZ, .int .i64 (21 : Int)]) (by simp [results, Try.results59, asAddr, hld.out, Result.andThen]) rfl hfin.out
end Pkt
end Go.Proofs.Ytdmgbngdpjcliaa
/- pkt.Parse, by contract. Conditions: what parse4 and parse6 make of the bytes. -/
namespace Go.Proofs.Ytdmgbngdpjcliaa
open Go.RowKit Go.ChangeShapes Go.WideShapes Go.ChangeAt Go.Deep
namespace Pkt
set_option maxRecDepth 20000 in
set_option maxHeartbeats 4000000 in
theorem Parse_none (n : Nat) (xs : List UInt8) (h0 : n = 0) (y : Array Value) (A : Option Addr) (c : Nat) (w : World) (hx : IsB w w.heap.size A n xs) (_hnc : n ≤ c) (_hcm : c ≤ maxLen) :
    Calls Try.prog 29 #[.slice A n c] w fun e w' => End2 2 y w w' e := by
  obtain ⟨zs, hzs⟩ : ∃ zs, pkZ = zs := ⟨_, rfl⟩
  have hbz : Below w.heap.size w (w.alloc (.cells pkZ 58)) := (Below.refl _ _).alloc (Nat.le_refl _) _
  have hgz := blk_new w 58 pkZ
  obtain ⟨w1, hw1⟩ : ∃ w1, w.alloc (.cells pkZ 58) = w1 := ⟨_, rfl⟩
  have hz1 : w.heap.size < w1.heap.size := by rw [← hw1]; simp
  rw [hw1] at hbz hgz
  rw [hzs] at hgz
  unfold pkZ at hw1
  have hzz : zs.size = 23 := hzs ▸ pkZ_size
  have hx1 := hx.on hbz
  have t0 : ((n : Int) == 0) = true := by rw [beq_iff_eq]; omega
  have hqB := hbz
  have hqg := hgz
  replace hx := hide hx
  replace hx1 := hide hx1
  replace hbz := hide hbz
  replace hgz := hide hgz
  replace hzs := hide hzs
  replace hqB := hide hqB
  replace hqg := hide hqg
  go_enter Try.func29, Try.ntmps29
  go_upto_region 2 with fail
  clear hw1
  apply wp_region_lit
  refine wpList_plain rfl fun K hK => ?_
  go_simp
  refine hK _ _ ?_
  clear hK K
  refine wpl_st rfl 58 (.tmp 2) (.tmp 8) rfl w.heap.size 0 rfl pkZ rfl hqg.out (by rw [hzz, pkZ_size]; omega) (by rw [size_pk, pkZ_size]) pkZ_one fun w9 hg9 g9 => ?_
  rw [putA_whole _ _ (by rw [hzz, pkZ_size])] at hg9
  have hB9 := hqB.out.trans (below_grown g9 (by omega) (by omega))
  have hld : (loadVar 58 ⟨w.heap.size, 0, none⟩).run Try.prog w9 = .ok (.agg pkZ) w9 := by
    simpa using run_loadVar_mid w9 w.heap.size 0 58 pkZ.toList _ (blk_range hg9) Try.underlying58 rfl (by rw [size_pk, Array.length_toList, pkZ_size])
  have hfin : End2 2 y w w9 (.returned (.tuple #[.agg pkZ, .int .i64 ((2 : Nat) : Int)])) := end_bad (y := y) _ (by omega) hB9
  clear g9
  replace hg9 := hide hg9
  replace hB9 := hide hB9
  replace hfin := hide hfin
  replace hld := hide hld
  refine wpList_plain rfl fun K hK => ?_
  go_simp
  refine hK _ _ ?_
  clear hK K
  refine wpList_nil ?_
  go_wp2_with fail
  exact bodyPost_ret (v := .tuple #[.agg pkZ, .int .i64 ((2 : Nat) : Int)]) (by simp [results, Try.results29, asAddr, hld.out, Result.andThen]) rfl hfin.out
set_option maxRecDepth 20000 in
set_option maxHeartbeats 4000000 in
theorem Parse_long (n : Nat) (xs : List UInt8) (h0 : 9000 < n) (y : Array Value) (A : Option Addr) (c : Nat) (w : World) (hx : IsB w w.heap.size A n xs) (_hnc : n ≤ c) (_hcm : c ≤ maxLen) :
    Calls Try.prog 29 #[.slice A n c] w fun e w' => End2 25 y w w' e := by
  obtain ⟨zs, hzs⟩ : ∃ zs, pkZ = zs := ⟨_, rfl⟩
  have hbz : Below w.heap.size w (w.alloc (.cells pkZ 58)) := (Below.refl _ _).alloc (Nat.le_refl _) _
  have hgz := blk_new w 58 pkZ
  obtain ⟨w1, hw1⟩ : ∃ w1, w.alloc (.cells pkZ 58) = w1 := ⟨_, rfl⟩
  have hz1 : w.heap.size < w1.heap.size := by rw [← hw1]; simp
  rw [hw1] at hbz hgz
  rw [hzs] at hgz
  unfold pkZ at hw1
  have hzz : zs.size = 23 := hzs ▸ pkZ_size
  have hx1 := hx.on hbz
  have t0 : ((n : Int) == 0) = false := by rw [beq_eq_false_iff_ne]; omega
  have t9 : (9000 : Int) < (n : Int) := by omega
  have hqB := hbz
  have hqg := hgz
  replace hx := hide hx
  replace hx1 := hide hx1
  replace hbz := hide hbz
  replace hgz := hide hgz
  replace hzs := hide hzs
  replace hqB := hide hqB
  replace hqg := hide hqg
  go_enter Try.func29, Try.ntmps29
  go_upto_region 4 with fail
  clear hw1
  apply wp_region_lit
  refine wpList_plain rfl fun K hK => ?_
  go_simp
  refine hK _ _ ?_
  clear hK K
  refine wpl_st rfl 58 (.tmp 2) (.tmp 13) rfl w.heap.size 0 rfl pkZ rfl hqg.out (by rw [hzz, pkZ_size]; omega) (by rw [size_pk, pkZ_size]) pkZ_one fun w9 hg9 g9 => ?_
  rw [putA_whole _ _ (by rw [hzz, pkZ_size])] at hg9
  have hB9 := hqB.out.trans (below_grown g9 (by omega) (by omega))
  have hld : (loadVar 58 ⟨w.heap.size, 0, none⟩).run Try.prog w9 = .ok (.agg pkZ) w9 := by
    simpa using run_loadVar_mid w9 w.heap.size 0 58 pkZ.toList _ (blk_range hg9) Try.underlying58 rfl (by rw [size_pk, Array.length_toList, pkZ_size])
  have hfin : End2 25 y w w9 (.returned (.tuple #[.agg pkZ, .int .i64 ((25 : Nat) : Int)])) := end_bad (y := y) _ (by omega) hB9
  clear g9
  replace hg9 := hide hg9
  replace hB9 := hide hB9
  replace hfin := hide hfin
  replace hld := hide hld
  refine wpList_plain rfl fun K hK => ?_
  go_simp
  refine hK _ _ ?_
  clear hK K
  refine wpList_nil ?_
  go_wp2_with fail
  exact bodyPost_ret (v := .tuple #[.agg pkZ, .int .i64 ((25 : Nat) : Int)]) (by simp [results, Try.results29, asAddr, hld.out, Result.andThen]) rfl hfin.out
set_option maxRecDepth 20000 in
set_option maxHeartbeats 4000000 in
theorem Parse_else (n : Nat) (xs : List UInt8) (h0 : 0 < n) (hl : n ≤ 9000) (hv : (xs.getD 0 0).toNat / 16 ≠ 4 ∧ (xs.getD 0 0).toNat / 16 ≠ 6) (y : Array Value) (A : Option Addr) (c : Nat) (w : World) (hx : IsB w w.heap.size A n xs) (_hnc : n ≤ c) (_hcm : c ≤ maxLen) :
    Calls Try.prog 29 #[.slice A n c] w fun e w' => End2 10 y w w' e := by
  obtain ⟨zs, hzs⟩ : ∃ zs, pkZ = zs := ⟨_, rfl⟩
  have hbz : Below w.heap.size w (w.alloc (.cells pkZ 58)) := (Below.refl _ _).alloc (Nat.le_refl _) _
  have hgz := blk_new w 58 pkZ
  obtain ⟨w1, hw1⟩ : ∃ w1, w.alloc (.cells pkZ 58) = w1 := ⟨_, rfl⟩
  have hz1 : w.heap.size < w1.heap.size := by rw [← hw1]; simp
  rw [hw1] at hbz hgz
  rw [hzs] at hgz
  unfold pkZ at hw1
  have hzz : zs.size = 23 := hzs ▸ pkZ_size
  have hx1 := hx.on hbz
  obtain ⟨b, off, v0, rfl, hbl, hv0, hv0l, hc0⟩ := hx1.byte (i := 0) (by omega)
  rw [Nat.add_zero] at hc0
  rw [hv0] at hv
  have t0 : ((n : Int) == 0) = false := by rw [beq_eq_false_iff_ne]; omega
  have t9 : ¬ (9000 : Int) < (n : Int) := by omega
  have t1 : (0 : Int) < (n : Int) := by omega
  have t2 : 0 < n := by omega
  have t3 : (((v0 : Int) / 16) == 4) = false := by rw [beq_eq_false_iff_ne]; omega
  have t4 : (((v0 : Int) / 16) == 6) = false := by rw [beq_eq_false_iff_ne]; omega
  have hqB := hbz
  have hqg := hgz
  replace hx := hide hx
  replace hx1 := hide hx1
  replace hbz := hide hbz
  replace hgz := hide hgz
  replace hzs := hide hzs
  replace hqB := hide hqB
  replace hqg := hide hqg
  replace hv0 := hide hv0
  replace hv := hide hv
  go_enter Try.func29, Try.ntmps29
  go_upto_region 9 with fail
  clear hw1
  apply wp_region_lit
  refine wpList_plain rfl fun K hK => ?_
  go_simp
  refine hK _ _ ?_
  clear hK K
  refine wpl_st rfl 58 (.tmp 2) (.tmp 34) rfl w.heap.size 0 rfl pkZ rfl hqg.out (by rw [hzz, pkZ_size]; omega) (by rw [size_pk, pkZ_size]) pkZ_one fun w9 hg9 g9 => ?_
  rw [putA_whole _ _ (by rw [hzz, pkZ_size])] at hg9
  have hB9 := hqB.out.trans (below_grown g9 (by omega) (by omega))
  have hld : (loadVar 58 ⟨w.heap.size, 0, none⟩).run Try.prog w9 = .ok (.agg pkZ) w9 := by
    simpa using run_loadVar_mid w9 w.heap.size 0 58 pkZ.toList _ (blk_range hg9) Try.underlying58 rfl (by rw [size_pk, Array.length_toList, pkZ_size])
  have hfin : End2 10 y w w9 (.returned (.tuple #[.agg pkZ, .int .i64 ((10 : Nat) : Int)])) := end_bad (y := y) _ (by omega) hB9
  clear g9
  replace hg9 := hide hg9
  replace hB9 := hide hB9
  replace hfin := hide hfin
  replace hld := hide hld
  refine wpList_plain rfl fun K hK => ?_
  go_simp
  refine hK _ _ ?_
  clear hK K
  refine wpList_nil ?_
  go_wp2_with fail
  exact bodyPost_ret (v := .tuple #[.agg pkZ, .int .i64 ((10 : Nat) : Int)]) (by simp [results, Try.results29, asAddr, hld.out, Result.andThen]) rfl hfin.out
set_option maxRecDepth 20000 in
set_option maxHeartbeats 4000000 in
theorem Parse_four (n : Nat) (xs : List UInt8) (h0 : 0 < n) (hl : n ≤ 9000) (hv : (xs.getD 0 0).toNat / 16 = 4) (KK : Nat) (y : Array Value) (hy : KK = 0 → y.size = 23 ∧ y.all (·.oneCell') = true)
    (hP : ∀ (A : Option Addr) (c : Nat) (w : World), IsB w w.heap.size A n xs → n ≤ c → c ≤ maxLen → Calls Try.prog 58 #[.slice A n c] w fun e w' => End2 KK y w w' e)
    (A : Option Addr) (c : Nat) (w : World) (hx : IsB w w.heap.size A n xs) (hnc : n ≤ c) (hcm : c ≤ maxLen) :
    Calls Try.prog 29 #[.slice A n c] w fun e w' => End2 KK y w w' e := by
  obtain ⟨zs, hzs⟩ : ∃ zs, pkZ = zs := ⟨_, rfl⟩
  have hbz : Below w.heap.size w (w.alloc (.cells pkZ 58)) := (Below.refl _ _).alloc (Nat.le_refl _) _
  have hgz := blk_new w 58 pkZ
  obtain ⟨w1, hw1⟩ : ∃ w1, w.alloc (.cells pkZ 58) = w1 := ⟨_, rfl⟩
  have hz1 : w.heap.size < w1.heap.size := by rw [← hw1]; simp
  rw [hw1] at hbz hgz
  rw [hzs] at hgz
  unfold pkZ at hw1
  have hzz : zs.size = 23 := hzs ▸ pkZ_size
  have hx1 := hx.on hbz
  obtain ⟨b, off, v0, rfl, hbl, hv0, hv0l, hc0⟩ := hx1.byte (i := 0) (by omega)
  rw [Nat.add_zero] at hc0
  rw [hv0] at hv
  have t0 : ((n : Int) == 0) = false := by rw [beq_eq_false_iff_ne]; omega
  have t9 : ¬ (9000 : Int) < (n : Int) := by omega
  have t1 : (0 : Int) < (n : Int) := by omega
  have t2 : 0 < n := by omega
  have t3 : (((v0 : Int) / 16) == 4) = true := by rw [beq_iff_eq]; omega
  have hPc := hP _ c w1 hx1 hnc hcm
  replace hx := hide hx
  replace hx1 := hide hx1
  replace hbz := hide hbz
  replace hgz := hide hgz
  replace hzs := hide hzs
  replace hv0 := hide hv0
  replace hv := hide hv
  replace hPc := hide hPc
  replace hP := hide hP
  replace hy := hide hy
  go_enter Try.func29, Try.ntmps29
  go_upto_region 6 with fail
  clear hw1
  apply wp_region_lit
  refine wpList_plain rfl fun K hK => ?_
  go_simp
  refine hK _ _ ?_
  clear hK K
  refine wpList_plain rfl fun K hK => ?_
  go_simp
  refine hPc.out.mono ?_
  rintro e w2 ⟨rfl, hb2⟩
  obtain ⟨z, hz, hzs2, hzo⟩ : ∃ z, (if KK = 0 then y else pkZ) = z ∧ z.size = 23 ∧ z.all (·.oneCell') = true := by
    by_cases h : KK = 0
    · exact ⟨y, by rw [if_pos h], hy.out h⟩
    · exact ⟨pkZ, by rw [if_neg h], pkZ_size, pkZ_one⟩
  rw [hz]
  have hqB := hbz.out.trans (hb2.mono (by omega))
  have hqg := blk_below hb2 hz1 hgz.out
  have z2 := hb2.size
  clear hb2
  obtain ⟨kv, hkv⟩ : ∃ kv, ((KK : Nat) : Int) = kv := ⟨_, rfl⟩
  have hstore : ∀ (w9 : World), w9.heap[w.heap.size]? = some (.cells z 58 (0, 0)) → Below w.heap.size w w9 → (loadVar 58 ⟨w.heap.size, 0, none⟩).run Try.prog w9 = .ok (.agg z) w9 := fun w9 h _ => by
    simpa using run_loadVar_mid w9 w.heap.size 0 58 z.toList _ (blk_range h) Try.underlying58 rfl (by rw [size_pk, Array.length_toList, hzs2])
  clear hkv kv
  replace hz := hide hz
  replace hzo := hide hzo
  replace hqB := hide hqB
  replace hqg := hide hqg
  replace hstore := hide hstore
  go_simp
  refine hK _ _ ?_
  clear hK K
  refine wpList_plain rfl fun K hK => ?_
  go_simp
  refine hK _ _ ?_
  clear hK K
  refine wpList_plain rfl fun K hK => ?_
  go_simp
  refine hK _ _ ?_
  clear hK K
  refine wpl_st rfl 58 (.tmp 2) (.tmp 22) rfl w.heap.size 0 rfl z rfl hqg.out (by rw [hzz, hzs2]; omega) (by rw [size_pk, hzs2]) hzo.out fun w9 hg9 g9 => ?_
  rw [putA_whole _ _ (by rw [hzz, hzs2])] at hg9
  have hB9 := hqB.out.trans (below_grown g9 (by omega) (by omega))
  have hld : (loadVar 58 ⟨w.heap.size, 0, none⟩).run Try.prog w9 = .ok (.agg z) w9 := by
    simpa using run_loadVar_mid w9 w.heap.size 0 58 z.toList _ (blk_range hg9) Try.underlying58 rfl (by rw [size_pk, Array.length_toList, hzs2])
  have hfin : End2 KK y w w9 (.returned (.tuple #[.agg z, .int .i64 ((KK : Nat) : Int)])) := ⟨by rw [hz.out], hB9⟩
  clear g9
  replace hg9 := hide hg9
  replace hB9 := hide hB9
  replace hfin := hide hfin
  replace hld := hide hld
  refine wpList_plain rfl fun K hK => ?_
  go_simp
  refine hK _ _ ?_
  clear hK K
  refine wpList_nil ?_
  go_wp2_with fail
  exact bodyPost_ret (v := .tuple #[.agg z, .int .i64 ((KK : Nat) : Int)]) (by simp [results, Try.results29, asAddr, hld.out, Result.andThen]) rfl hfin.out
set_option maxRecDepth 20000 in
set_option maxHeartbeats 4000000 in
theorem Parse_six (n : Nat) (xs : List UInt8) (h0 : 0 < n) (hl : n ≤ 9000) (hv : (xs.getD 0 0).toNat / 16 = 6) (KK : Nat) (y : Array Value) (hy : KK = 0 → y.size = 23 ∧ y.all (·.oneCell') = true)
    (hP : ∀ (A : Option Addr) (c : Nat) (w : World), IsB w w.heap.size A n xs → n ≤ c → c ≤ maxLen → Calls Try.prog 59 #[.slice A n c] w fun e w' => End2 KK y w w' e)
    (A : Option Addr) (c : Nat) (w : World) (hx : IsB w w.heap.size A n xs) (hnc : n ≤ c) (hcm : c ≤ maxLen) :
    Calls Try.prog 29 #[.slice A n c] w fun e w' => End2 KK y w w' e := by
  obtain ⟨zs, hzs⟩ : ∃ zs, pkZ = zs := ⟨_, rfl⟩
  have hbz : Below w.heap.size w (w.alloc (.cells pkZ 58)) := (Below.refl _ _).alloc (Nat.le_refl _) _
  have hgz := blk_new w 58 pkZ
  obtain ⟨w1, hw1⟩ : ∃ w1, w.alloc (.cells pkZ 58) = w1 := ⟨_, rfl⟩
  have hz1 : w.heap.size < w1.heap.size := by rw [← hw1]; simp
  rw [hw1] at hbz hgz
  rw [hzs] at hgz
  unfold pkZ at hw1
  have hzz : zs.size = 23 := hzs ▸ pkZ_size
  have hx1 := hx.on hbz
  obtain ⟨b, off, v0, rfl, hbl, hv0, hv0l, hc0⟩ := hx1.byte (i := 0) (by omega)
  rw [Nat.add_zero] at hc0
  rw [hv0] at hv
  have t0 : ((n : Int) == 0) = false := by rw [beq_eq_false_iff_ne]; omega
  have t9 : ¬ (9000 : Int) < (n : Int) := by omega
  have t1 : (0 : Int) < (n : Int) := by omega
  have t2 : 0 < n := by omega
  have t3 : (((v0 : Int) / 16) == 4) = false := by rw [beq_eq_false_iff_ne]; omega
  have t4 : (((v0 : Int) / 16) == 6) = true := by rw [beq_iff_eq]; omega
  have hPc := hP _ c w1 hx1 hnc hcm
  replace hx := hide hx
  replace hx1 := hide hx1
  replace hbz := hide hbz
  replace hgz := hide hgz
  replace hzs := hide hzs
  replace hv0 := hide hv0
  replace hv := hide hv
  replace hPc := hide hPc
  replace hP := hide hP
  replace hy := hide hy
  go_enter Try.func29, Try.ntmps29
  go_upto_region 8 with fail
  clear hw1
  apply wp_region_lit
  refine wpList_plain rfl fun K hK => ?_
  go_simp
  refine hK _ _ ?_
  clear hK K
  refine wpList_plain rfl fun K hK => ?_
  go_simp
  refine hPc.out.mono ?_
  rintro e w2 ⟨rfl, hb2⟩
  obtain ⟨z, hz, hzs2, hzo⟩ : ∃ z, (if KK = 0 then y else pkZ) = z ∧ z.size = 23 ∧ z.all (·.oneCell') = true := by
    by_cases h : KK = 0
    · exact ⟨y, by rw [if_pos h], hy.out h⟩
    · exact ⟨pkZ, by rw [if_neg h], pkZ_size, pkZ_one⟩
  rw [hz]
  have hqB := hbz.out.trans (hb2.mono (by omega))
  have hqg := blk_below hb2 hz1 hgz.out
  have z2 := hb2.size
  clear hb2
  obtain ⟨kv, hkv⟩ : ∃ kv, ((KK : Nat) : Int) = kv := ⟨_, rfl⟩
  have hstore : ∀ (w9 : World), w9.heap[w.heap.size]? = some (.cells z 58 (0, 0)) → Below w.heap.size w w9 → (loadVar 58 ⟨w.heap.size, 0, none⟩).run Try.prog w9 = .ok (.agg z) w9 := fun w9 h _ => by
    simpa using run_loadVar_mid w9 w.heap.size 0 58 z.toList _ (blk_range h) Try.underlying58 rfl (by rw [size_pk, Array.length_toList, hzs2])
  clear hkv kv
  replace hz := hide hz
  replace hzo := hide hzo
  replace hqB := hide hqB
  replace hqg := hide hqg
  replace hstore := hide hstore
  go_simp
  refine hK _ _ ?_
  clear hK K
  refine wpList_plain rfl fun K hK => ?_
  go_simp
  refine hK _ _ ?_
  clear hK K
  refine wpList_plain rfl fun K hK => ?_
  go_simp
  refine hK _ _ ?_
  clear hK K
  refine wpl_st rfl 58 (.tmp 2) (.tmp 32) rfl w.heap.size 0 rfl z rfl hqg.out (by rw [hzz, hzs2]; omega) (by rw [size_pk, hzs2]) hzo.out fun w9 hg9 g9 => ?_
  rw [putA_whole _ _ (by rw [hzz, hzs2])] at hg9
  have hB9 := hqB.out.trans (below_grown g9 (by omega) (by omega))
  have hld : (loadVar 58 ⟨w.heap.size, 0, none⟩).run Try.prog w9 = .ok (.agg z) w9 := by
    simpa using run_loadVar_mid w9 w.heap.size 0 58 z.toList _ (blk_range hg9) Try.underlying58 rfl (by rw [size_pk, Array.length_toList, hzs2])
  have hfin : End2 KK y w w9 (.returned (.tuple #[.agg z, .int .i64 ((KK : Nat) : Int)])) := ⟨by rw [hz.out], hB9⟩
  clear g9
  replace hg9 := hide hg9
  replace hB9 := hide hB9
  replace hfin := hide hfin
  replace hld := hide hld
  refine wpList_plain rfl fun K hK => ?_
  go_simp
  refine hK _ _ ?_
  clear hK K
  refine wpList_nil ?_
  go_wp2_with fail
  exact bodyPost_ret (v := .tuple #[.agg z, .int .i64 ((KK : Nat) : Int)]) (by simp [results, Try.results29, asAddr, hld.out, Result.andThen]) rfl hfin.out
end Pkt
end Go.Proofs.Ytdmgbngdpjcliaa
/- What upper makes of bytes: there is always one answer. -/
namespace Go.Proofs.Ytdmgbngdpjcliaa
open Go.RowKit Go.ChangeShapes Go.WideShapes Go.ChangeAt Go.Deep
namespace Pkt
theorem upper_is (cs : Array Value) (hcs : cs.size = 23) (hone : cs.all (·.oneCell') = true) (v6 : Bool) (h0 : cs[0]? = some (.bool v6)) (pr : Int) (h1 : cs[1]? = some (.int .i64 pr)) (errs : Int) (_he6 : errs ≠ 6) (_he17 : errs ≠ 17) (xs ps : List UInt8) (hnm : xs.length ≤ 1099511627776) (hm : ps.length ≤ maxLen) :
    ∃ K y, (K = 0 → y.size = 23 ∧ y.all (·.oneCell') = true) ∧ UpIs cs errs xs ps K y := by
  by_cases h6 : pr = 6
  · refine ⟨_, tcpA cs (Tcp.parseS (Tcp.parseK ps xs) xs 0) (Tcp.parseS (Tcp.parseK ps xs) xs 2) (Tcp.parseF (Tcp.parseK ps xs) xs), fun _ => ⟨by unfold tcpA; simp [hcs], one_set (one_set (one_set hone _ rfl) _ rfl) _ rfl⟩, fun A P c d w hx hp hc hcm => upper_tcp cs hcs hone v6 h0 pr h1 errs A P c d xs ps w hx hp hc hcm hnm hm h6 _ rfl _ (fun _ => rfl)⟩
  by_cases h17 : pr = 17
  · refine ⟨_, udpA cs (Udp.parseS (Udp.parseK (!v6) ps xs) xs 0) (Udp.parseS (Udp.parseK (!v6) ps xs) xs 2), fun _ => ⟨by unfold udpA; simp [hcs], one_set (one_set hone _ rfl) _ rfl⟩, fun A P c d w hx hp hc hcm => upper_udp cs hcs hone v6 h0 pr h1 errs A P c d xs ps w hx hp hc hcm hnm hm h17 _ rfl _ (fun _ => rfl)⟩
  by_cases he : pr = errs
  · have ha : (aheadP v6 ps).length ≤ maxLen := by
      unfold aheadP
      split
      · exact hm
      · simp [maxLen]
    obtain ⟨K1, ty, cd, wd, ds, _, hds, hP⟩ := Icmp.parse_is xs (aheadP v6 ps) hnm ha
    obtain ⟨K2, qr, sv, sh, sl, dv, dh, dl, sp, dp, hQ⟩ := Icmp.quoted_is v6 ty ds (by omega)
    refine ⟨_, errA cs (tuA qr dv dh dl sv sh sl dp sp), fun _ => ⟨?_, ?_⟩, fun A P c d w hx hp hc hcm => upper_err cs hcs hone v6 h0 pr h1 errs A P c d xs ps w hx hp hc hcm hnm hm h6 h17 he K1 ty cd wd ds hP K2 qr sv sh sl dv dh dl sp dp hQ⟩
    · unfold errA
      rw [putA_size _ _ _ (by simp [hcs, tuA]), Array.size_setIfInBounds, hcs]
    · unfold errA
      exact all_put (one_set hone _ rfl) (by simpa using tuA_one qr dv dh dl sv sh sl dp sp)
  · exact ⟨14, #[], fun h => absurd h (by omega), fun A P c d w hx hp hc hcm => upper_none cs hcs hone v6 h0 pr h1 errs A P c d xs ps w hx hp hc hcm hnm hm h6 h17 he #[]⟩
end Pkt
end Go.Proofs.Ytdmgbngdpjcliaa
/- What parse4, parse6 and pkt.Parse make of bytes: there is always one answer. -/
namespace Go.Proofs.Ytdmgbngdpjcliaa
open Go.RowKit Go.ChangeShapes Go.WideShapes Go.ChangeAt Go.Deep
namespace Pkt
/-- What is behind a header is as long as it says. -/
theorem rest4 {n : Nat} {xs : List UInt8} {K tos id : Nat} {df mf : Bool} {frag ttl proto slo dlo n1 m1 : Nat} {rest : List UInt8} (hF : Tun.FourIs n xs K tos id df mf frag ttl proto slo dlo n1 m1 rest) {A : Option Addr} {c : Nat} {w : World} (hx : IsB w w.heap.size A n xs) (hc : n ≤ c) (hm : c ≤ maxLen) : rest.length = m1 := by
  obtain ⟨e, w', _, ⟨A1, c1, A2, c2, _, hi, _⟩, _⟩ := hF A c w hx hc hm []
  exact hi.1
theorem rest6 {n : Nat} {xs : List UInt8} {K : Nat} {cl la ho : Int} {b1 : Bool} {sh sl : Int} {b2 : Bool} {dh dl : Int} {acc : List (Int × List UInt8)} {nx m1 : Nat} {rest : List UInt8} (hF : Tun.SixIs n xs K cl la ho b1 sh sl b2 dh dl acc nx m1 rest) {A : Option Addr} {c : Nat} {w : World} (hx : IsB w w.heap.size A n xs) (hc : n ≤ c) (hm : c ≤ maxLen) : rest.length = m1 := by
  obtain ⟨e, w', _, ⟨X, m, xc, A2, c2, es, _, _, _, _, _, hi, _⟩, _⟩ := hF A c w hx hc hm []
  exact hi.1
theorem four_made (n : Nat) (xs : List UInt8) (hn : n ≤ 1099511627776) (A : Option Addr) (c : Nat) (w : World) (hx : IsB w w.heap.size A n xs) (hc : n ≤ c) (hcm : c ≤ maxLen) :
    ∃ K y, (K = 0 → y.size = 23 ∧ y.all (·.oneCell') = true) ∧ ∀ (A : Option Addr) (c : Nat) (w : World), IsB w w.heap.size A n xs → n ≤ c → c ≤ maxLen → Calls Try.prog 58 #[.slice A n c] w fun e w' => End2 K y w w' e := by
  rcases Tun.four_is n xs hx.1 hn with ⟨K, hK, _, hF⟩ | ⟨tos, id, df, mf, frag, ttl, proto, slo, dlo, n1, m1, rest, hl, hn1, _, hpr, _, hsl, hdl, hF⟩
  · exact ⟨K, #[], fun h => absurd h hK, fun A c w hx hc hcm => parse4_bad n xs K hK hF #[] A c w hx hc hcm⟩
  have hr := rest4 hF hx hc hcm
  by_cases hf : 0 < frag ∨ mf = true
  · exact ⟨21, #[], fun h => absurd h (by omega), fun A c w hx hc hcm => parse4_frag n xs tos id df mf frag ttl proto slo dlo n1 m1 rest hF hf #[] A c w hx hc hcm⟩
  obtain rfl : frag = 0 := by omega
  obtain rfl : mf = false := by cases mf with | false => rfl | true => exact absurd (.inr rfl) hf
  obtain ⟨K, y, hy, hU⟩ := upper_is (p4A proto slo dlo ttl (20 + n1 + m1)) rfl (p4A_one _ _ _ _ _) false rfl (proto : Int) rfl 1 (by decide) (by decide) rest (ps4 slo dlo proto m1) (by omega) (by unfold ps4 maxLen; simp [beB_length])
  exact ⟨K, y, hy, fun A c w hx hc hcm => parse4_ok n xs tos id df ttl proto slo dlo n1 m1 rest hF (by omega) hpr hsl hdl hr K y hU hy A c w hx hc hcm⟩
theorem six_made (n : Nat) (xs : List UInt8) (hn : n ≤ 1099511627776) (A : Option Addr) (c : Nat) (w : World) (hx : IsB w w.heap.size A n xs) (hc : n ≤ c) (hcm : c ≤ maxLen) :
    ∃ K y, (K = 0 → y.size = 23 ∧ y.all (·.oneCell') = true) ∧ ∀ (A : Option Addr) (c : Nat) (w : World), IsB w w.heap.size A n xs → n ≤ c → c ≤ maxLen → Calls Try.prog 59 #[.slice A n c] w fun e w' => End2 K y w w' e := by
  rcases Tun.six_is n xs hx.1 hn with ⟨K, hK, _, hF⟩ | ⟨cl, la, ho, sh, sl, dh, dl, acc, nx, m1, rest, _, hpr, hac, hal, hl, hsh, hsl, hdh, hdl, hF⟩
  · exact ⟨K, #[], fun h => absurd h hK, fun A c w hx hc hcm => parse6_bad n xs K hK hF #[] A c w hx hc hcm⟩
  have hr := rest6 hF hx hc hcm
  by_cases hf : 0 < Six.fragP acc ∨ Six.moreP acc = true
  · exact ⟨21, #[], fun h => absurd h (by omega), fun A c w hx hc hcm => parse6_frag n xs cl la ho sh sl dh dl acc nx m1 rest hF hac hf #[] A c w hx hc hcm⟩
  have hf0 : Six.fragP acc = 0 := by omega
  have hm0 : Six.moreP acc = false := by
    cases h : Six.moreP acc with
    | false => rfl
    | true => exact absurd (.inr h) hf
  obtain ⟨K, y, hy, hU⟩ := upper_is (p6A nx sh sl dh dl ho (40 + Six.sumP acc + m1)) rfl (p6A_one _ _ _ _ _ _ _) true rfl (nx : Int) rfl 58 (by decide) (by decide) rest (Six.pseudoB sh sl dh dl m1 nx) (by omega) (by unfold Six.pseudoB maxLen; simp [beB_length, allB])
  exact ⟨K, y, hy, fun A c w hx hc hcm => parse6_ok n xs cl la ho sh sl dh dl acc nx m1 rest hF hac hal hf0 hm0 (by omega) hpr hsh hsl hdh hdl hr _ rfl K y hU hy A c w hx hc hcm⟩
/-- What pkt.Parse makes of bytes, wherever they lie. -/
theorem parse_made (n : Nat) (xs : List UInt8) (A : Option Addr) (c : Nat) (w : World) (hx : IsB w w.heap.size A n xs) (hc : n ≤ c) (hcm : c ≤ maxLen) :
    ∃ K y, (K = 0 → y.size = 23 ∧ y.all (·.oneCell') = true) ∧ ∀ (A : Option Addr) (c : Nat) (w : World), IsB w w.heap.size A n xs → n ≤ c → c ≤ maxLen → Calls Try.prog 29 #[.slice A n c] w fun e w' => End2 K y w w' e := by
  by_cases h0 : n = 0
  · exact ⟨2, #[], fun h => absurd h (by omega), fun A c w hx hc hcm => Parse_none n xs h0 #[] A c w hx hc hcm⟩
  by_cases hl : 9000 < n
  · exact ⟨25, #[], fun h => absurd h (by omega), fun A c w hx hc hcm => Parse_long n xs hl #[] A c w hx hc hcm⟩
  by_cases h4 : (xs.getD 0 0).toNat / 16 = 4
  · obtain ⟨K, y, hy, hP⟩ := four_made n xs (by omega) A c w hx hc hcm
    exact ⟨K, y, hy, fun A c w hx hc hcm => Parse_four n xs (by omega) (by omega) h4 K y hy hP A c w hx hc hcm⟩
  by_cases h6 : (xs.getD 0 0).toNat / 16 = 6
  · obtain ⟨K, y, hy, hP⟩ := six_made n xs (by omega) A c w hx hc hcm
    exact ⟨K, y, hy, fun A c w hx hc hcm => Parse_six n xs (by omega) (by omega) h6 K y hy hP A c w hx hc hcm⟩
  exact ⟨10, #[], fun h => absurd h (by omega), fun A c w hx hc hcm => Parse_else n xs (by omega) (by omega) ⟨h4, h6⟩ #[] A c w hx hc hcm⟩
end Pkt
end Go.Proofs.Ytdmgbngdpjcliaa
/- The function literals of pkt.Datagram and pkt.Segment, by contract: what is behind the header. Conditions: slices of bytes that read as lists, at most 4000 bytes. -/
namespace Go.Proofs.Ytdmgbngdpjcliaa
open Go.RowKit Go.ChangeShapes Go.WideShapes Go.ChangeAt Go.Deep
namespace Pkt
def dgK (sp dp : Int) : Nat := if Udp.rightP sp dp = true then 0 else 1
def sgK (sp dp fl : Int) : Nat := if Tcp.rightP sp dp fl = true then 0 else 1
theorem udp_in (sp dp : Int) (A : Option Addr) (n c : Nat) (P : Option Addr) (m d : Nat) (xs ps : List UInt8) (w : World) (hx : IsB w w.heap.size A n xs) (hp : IsB w w.heap.size P m ps) (hn : n ≤ 4000) (hm : m ≤ maxLen) :
    Calls Try.prog 68 #[.agg #[.int .i64 sp, .int .i64 dp, .bool false], .slice A n c, .slice P m d] w fun e w' => InEnd (dgK sp dp) (Udp.dgB ps sp.toNat dp.toNat xs) w w' e := by
  by_cases h : Udp.rightP sp dp = true
  · have hk : dgK sp dp = 0 := by unfold dgK; rw [if_pos h]
    unfold Udp.rightP at h
    rw [decide_eq_true_eq] at h
    have := Udp.bytes_yes sp.toNat dp.toNat A n c P m d xs ps w (by omega) (by omega) hx hp (by omega) hm
    rw [show ((sp.toNat : Nat) : Int) = sp by omega, show ((dp.toNat : Nat) : Int) = dp by omega] at this
    refine this.mono ?_
    rintro e w' ⟨v, rfl, h1, h2⟩
    rw [hk]
    exact .yes h1 h2
  · have hk : dgK sp dp = 1 := by unfold dgK; rw [if_neg h]
    refine (Udp.bytes_no sp dp A n c P m d w (by simpa using h)).mono ?_
    rintro e w' ⟨rfl, h2⟩
    rw [hk]
    exact .no _ (by omega) h2
theorem tcp_in (sp dp fl : Int) (A : Option Addr) (n c : Nat) (P : Option Addr) (m d : Nat) (xs ps : List UInt8) (w : World) (hx : IsB w w.heap.size A n xs) (hp : IsB w w.heap.size P m ps) (hn : n ≤ 4000) (hm : m ≤ maxLen) :
    Calls Try.prog 70 #[Tcp.hdV sp dp 0 0 fl 1024 0 none 0 0, .slice A n c, .slice P m d] w fun e w' => InEnd (sgK sp dp fl) (Tcp.sgB ps sp.toNat dp.toNat fl.toNat xs) w w' e := by
  by_cases h : Tcp.rightP sp dp fl = true
  · have hk : sgK sp dp fl = 0 := by unfold sgK; rw [if_pos h]
    unfold Tcp.rightP at h
    rw [decide_eq_true_eq] at h
    have := Tcp.bytes_yes sp.toNat dp.toNat fl.toNat A n c P m d xs ps w (by omega) (by omega) (by omega) hx hp (by omega) hm
    rw [show ((sp.toNat : Nat) : Int) = sp by omega, show ((dp.toNat : Nat) : Int) = dp by omega, show ((fl.toNat : Nat) : Int) = fl by omega] at this
    refine this.mono ?_
    rintro e w' ⟨v, rfl, h1, h2⟩
    rw [hk]
    exact .yes h1 h2
  · have hk : sgK sp dp fl = 1 := by unfold sgK; rw [if_neg h]
    refine (Tcp.bytes_no sp dp fl A n c P m d w (by simpa using h)).mono ?_
    rintro e w' ⟨rfl, h2⟩
    rw [hk]
    exact .no _ (by omega) h2
set_option maxRecDepth 8000 in
theorem lit_dg (pr : Int) (sv : Bool) (shi slo : Int) (dv : Bool) (dhi dlo sp dp : Int) (g1 g2 : Nat) (A : Option Addr) (n c : Nat) (P : Option Addr) (m d : Nat) (xs ps : List UInt8) (w : World) (hg1 : w.heap[g1]? = some (.cells (tuA pr sv shi slo dv dhi dlo sp dp) 56 (0, 0))) (hg2 : w.heap[g2]? = some (.cells #[.slice A n c] 22 (0, 0)))
    (hx : IsB w w.heap.size A n xs) (hp : IsB w w.heap.size P m ps) (hn : n ≤ 4000) (hm : m ≤ maxLen) :
    Calls Try.prog 67 #[.slice P m d, .pointer (some ⟨g1, 0, none⟩), .pointer (some ⟨g2, 0, none⟩)] w fun e w' => InEnd (dgK sp dp) (Udp.dgB ps sp.toNat dp.toNat xs) w w' e := by
  unfold tuA at hg1
  have hc1 := blk_cell hg1
  have hc2 := blk_cell hg2
  replace hg1 := hide hg1
  replace hg2 := hide hg2
  replace hx := hide hx
  replace hp := hide hp
  go_enter Try.func67, Try.ntmps67
  go_wp2_with fail
  refine (udp_in sp dp A n c P m d xs ps _ hx.out hp.out hn hm).mono ?_
  rintro e w4 ⟨v4, rfl, h6, h7, h8⟩
  clear hc1 hc2
  replace h6 := hide h6
  replace h7 := hide h7
  replace h8 := hide h8
  go_wp2_with fail
  go_ret2
  exact ⟨v4, rfl, h6.out, h7.out, h8.out⟩
set_option maxRecDepth 8000 in
theorem lit_sg (pr : Int) (sv : Bool) (shi slo : Int) (dv : Bool) (dhi dlo sp dp fl : Int) (g1 g2 g3 : Nat) (A : Option Addr) (n c : Nat) (P : Option Addr) (m d : Nat) (xs ps : List UInt8) (w : World) (hg1 : w.heap[g1]? = some (.cells (tuA pr sv shi slo dv dhi dlo sp dp) 56 (0, 0))) (hg2 : w.heap[g2]? = some (.cells #[.int .i64 fl] 3 (0, 0))) (hg3 : w.heap[g3]? = some (.cells #[.slice A n c] 22 (0, 0)))
    (hx : IsB w w.heap.size A n xs) (hp : IsB w w.heap.size P m ps) (hn : n ≤ 4000) (hm : m ≤ maxLen) :
    Calls Try.prog 69 #[.slice P m d, .pointer (some ⟨g1, 0, none⟩), .pointer (some ⟨g2, 0, none⟩), .pointer (some ⟨g3, 0, none⟩)] w fun e w' => InEnd (sgK sp dp fl) (Tcp.sgB ps sp.toNat dp.toNat fl.toNat xs) w w' e := by
  unfold tuA at hg1
  have hc1 := blk_cell hg1
  have hc2 := blk_cell hg2
  have hc3 := blk_cell hg3
  have hu := tcp_in sp dp fl A n c P m d xs ps w hx hp hn hm
  unfold Tcp.hdV at hu
  replace hg1 := hide hg1
  replace hg2 := hide hg2
  replace hg3 := hide hg3
  replace hx := hide hx
  replace hp := hide hp
  replace hu := hide hu
  go_enter Try.func69, Try.ntmps69
  go_wp2_with fail
  refine hu.out.mono ?_
  rintro e w4 ⟨v4, rfl, h6, h7, h8⟩
  clear hc1 hc2 hc3 hu
  replace h6 := hide h6
  replace h7 := hide h7
  replace h8 := hide h8
  go_wp2_with fail
  go_ret2
  exact ⟨v4, rfl, h6.out, h7.out, h8.out⟩
end Pkt
end Go.Proofs.Ytdmgbngdpjcliaa
