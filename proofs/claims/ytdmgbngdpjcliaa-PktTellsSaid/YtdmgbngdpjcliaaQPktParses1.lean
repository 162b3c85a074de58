/- A block that is there stays in every later world. No condition. -/
import Derived.Test.YtdmgbngdpjcliaaQPktBig1
import Derived.Test.YtdmgbngdpjcliaaQPktBig15
import Derived.Test.YtdmgbngdpjcliaaQPktMakes2
import Derived.Test.YtdmgbngdpjcliaaQPktBig4
namespace Go.Proofs.Ytdmgbngdpjcliaa
open Go.RowKit
theorem blk_on {w w' : World} {g : Nat} {x : Obj} (hb : Below w.heap.size w w') (h : w.heap[g]? = some x) : w'.heap[g]? = some x := (hb.block g (Array.getElem?_eq_some_iff.1 h).1).trans h
theorem blk_lt {w : World} {g : Nat} {x : Obj} (h : w.heap[g]? = some x) : g < w.heap.size := (Array.getElem?_eq_some_iff.1 h).1
end Go.Proofs.Ytdmgbngdpjcliaa
/- Law 13's outer, by contract: a packet without what is behind its header, that, and what goes ahead of it; or why none. Conditions: what four.Parse (six.Parse) makes of the bytes. (Written by gen_pktouter.py) -/
namespace Go.Proofs.Ytdmgbngdpjcliaa
open Go.RowKit Go.ChangeShapes Go.WideShapes Go.ChangeAt Go.Deep
section
variable {P : Program} {md : Region.Mode} {Q : Exit → Act → World → Prop} {R : World → World → Prop}
/-- A struct is stored, as the one step that may come up. -/
theorem wpF_st (i : Nat) {L : List Oper} {op : Oper} {rest : List Oper} {fuel : Nat} {listed : Array Bool} {a : Act} {w : World} (hd : L.drop i = op :: rest) (hrd : Region.ready md L.toArray listed = [i]) (hgd : op.guard = none)
    (ty : TypeId) (x y : Operand) (ho : op.op = .store ty x y) (g o : Nat) (hx : a.eval x = .pointer (some ⟨g, o, none⟩)) (vs : Array Value) (hy : a.eval y = .agg vs) {cs : Array Value} {t : TypeId} (hc : w.heap[g]? = some (.cells cs t (0, 0))) (hn : o + vs.size ≤ cs.size)
    (hi : (P.info? ty).map (·.size) = some vs.size) (h1 : vs.all (·.oneCell') = true)
    (h : ∀ w', w'.heap[g]? = some (.cells (putA cs o vs.toList) t (0, 0)) → w.grownBy w' (some g) → R w w' ∧ wpF P md L.toArray Q R fuel (listed.setIfInBounds i true) (a.put op.dst undef) w') : wpF P md L.toArray Q R (fuel + 1) listed a w := by
  obtain ⟨w', e, h2, h3⟩ := stored_at (o := o) hc vs.toList (by simpa using hn)
  refine wpF_step i hd hrd fun K hK => ?_
  rw [if_pos (by unfold Region.wanted; rw [hgd])]
  refine wp_store_mid ty x y ho g o vs hx hy (blk_there hc hn) hi h1 ?_
  rw [e]
  exact hK _ _ (h w' h2 h3).1 (h w' h2 h3).2
end
namespace Pkt
def OuterEnd (K : Nat) (cs : Array Value) (rest ps : List UInt8) (w w' : World) (e : Ending) : Prop :=
  ∃ z r p, e = .returned (.tuple #[.agg z, r, p, .int .i64 (K : Int)]) ∧ z.size = 23 ∧ z.all (·.oneCell') = true ∧ (K = 0 → z = cs ∧ ∃ A c P d, r = .slice A rest.length c ∧ p = .slice P ps.length d ∧ IsB w' w'.heap.size A rest.length rest ∧ IsB w' w'.heap.size P ps.length ps ∧ rest.length ≤ c ∧ c ≤ maxLen) ∧ Below w.heap.size w w'
theorem pkG_one (v6 : Bool) (pr : Int) (sv : Bool) (shi slo : Int) (dv : Bool) (dhi dlo sp dp ttl fl : Int) (er : Bool) (apr : Int) (asv : Bool) (ashi aslo : Int) (adv : Bool) (adhi adlo asp adp sz : Int) : (pkG v6 pr sv shi slo dv dhi dlo sp dp ttl fl er apr asv ashi aslo adv adhi adlo asp adp sz).all (·.oneCell') = true := all_oneCell_toArray (by
  intro v hv
  simp only [List.mem_cons, List.not_mem_nil, or_false] at hv
  rcases hv with rfl | rfl | rfl | rfl | rfl | rfl | rfl | rfl | rfl | rfl | rfl | rfl | rfl | rfl | rfl | rfl | rfl | rfl | rfl | rfl | rfl | rfl | rfl <;> rfl)
/-- Bytes do not lie in a block that holds none: what is written there is not theirs. -/
theorem _root_.Go.Proofs.Ytdmgbngdpjcliaa.IsB.past {w w' : World} {B n g : Nat} {A : Option Addr} {xs : List UInt8} {cs : Array Value} {t : TypeId} (h : IsB w B A n xs) (hc : w.heap[g]? = some (.cells cs t (0, 0))) (hno : ∀ (o : Nat) (v : Value), cs[o]? = some v → ∀ x, v ≠ u8v x) (hg : w.grownBy w' (some g)) : IsB w' B A n xs := by
  refine ⟨h.1, fun hn => ?_⟩
  obtain ⟨b, off, rfl, hb, hcell⟩ := h.2 hn
  refine ⟨b, off, rfl, hb, fun i hi => ?_⟩
  have hne : b ≠ g := fun e => by
    subst e
    have h1 := hcell i hi
    rw [blk_cell hc] at h1
    exact hno _ _ h1 _ rfl
  rw [← hcell i hi]
  have hbl : b < w.heap.size := by
    by_cases hlt : b < w.heap.size
    · exact hlt
    · have h1 := hcell i hi
      unfold World.cell? at h1
      simp [Array.getElem?_eq_none (by omega : w.heap.size ≤ b)] at h1
  have hk := hg.block b hbl (fun e => hne (Option.some.inj e))
  unfold World.cell?
  rw [hk]
theorem pkZ_no8 : ∀ (o : Nat) (v : Value), pkZ[o]? = some v → ∀ x, v ≠ u8v x := by
  intro o v h x
  have hm : v ∈ pkZ.toList := by
    have := Array.mem_of_getElem? h
    exact Array.mem_toList_iff.2 this
  unfold pkZ at hm
  simp only [List.mem_cons, List.not_mem_nil, or_false] at hm
  rcases hm with rfl | rfl | rfl | rfl | rfl | rfl | rfl | rfl | rfl | rfl | rfl | rfl | rfl | rfl | rfl | rfl | rfl | rfl | rfl | rfl | rfl | rfl | rfl <;> exact fun e => by cases e
set_option maxRecDepth 20000 in
set_option maxHeartbeats 16000000 in
theorem outer_none (n : Nat) (xs : List UInt8) (hn : n = 0) (cs : Array Value) (rest ps : List UInt8) (A : Option Addr) (c : Nat) (w : World) (hx : IsB w w.heap.size A n xs) (hnc : n ≤ c) (hcm : c ≤ maxLen) :
    Calls Try.prog 60 #[.slice A n c] w fun e w' => OuterEnd 2 cs rest ps w w' e := by
  obtain ⟨zs, hzs⟩ : ∃ zs, pkZ = zs := ⟨_, rfl⟩
  have hbz : Below w.heap.size w (w.alloc (.cells pkZ 58)) := (Below.refl _ _).alloc (Nat.le_refl _) _
  have hgz := blk_new w 58 pkZ
  obtain ⟨w1, hw1⟩ : ∃ w1, w.alloc (.cells pkZ 58) = w1 := ⟨_, rfl⟩
  have hz1 : w.heap.size < w1.heap.size := by rw [← hw1]; simp
  rw [hw1] at hbz hgz
  rw [hzs] at hgz
  unfold pkZ at hw1
  have hzz : zs.size = 23 := hzs ▸ pkZ_size
  subst hn
  replace hx := hide hx
  replace hbz := hide hbz
  replace hgz := hide hgz
  replace hzs := hide hzs
  go_enter Try.func60, Try.ntmps60
  go_upto_region 2 with fail
  clear hw1
  apply wp_region_lit
  iterate 1 (refine wpList_plain rfl fun K hK => ?_; go_simp; refine hK _ _ ?_; clear hK K)
  refine wpl_st rfl 58 (.tmp 2) (.tmp 15) rfl w.heap.size 0 rfl pkZ rfl hgz.out (by rw [hzz, pkZ_size]; omega) size_pk pkZ_one fun w9 hg9 g9 => ?_
  rw [putA_whole _ _ (by rw [hzz, pkZ_size])] at hg9
  have hB9 := hbz.out.trans (below_grown g9 (by omega) (by omega))
  have hld : (loadVar 58 ⟨w.heap.size, 0, none⟩).run Try.prog w9 = .ok (.agg pkZ) w9 := by
    simpa using run_loadVar_mid w9 w.heap.size 0 58 pkZ.toList _ (blk_range hg9) Try.underlying58 rfl (by rw [size_pk, Array.length_toList, pkZ_size])
  have hfin : OuterEnd 2 cs rest ps w w9 (.returned (.tuple #[.agg pkZ, .slice none 0 0, .slice none 0 0, .int .i64 2])) := ⟨_, _, _, rfl, pkZ_size, pkZ_one, fun h => absurd h (by omega), hB9⟩
  clear g9
  replace hg9 := hide hg9
  replace hB9 := hide hB9
  replace hfin := hide hfin
  replace hld := hide hld
  iterate 3 (refine wpList_plain rfl fun K hK => ?_; go_simp; refine hK _ _ ?_; clear hK K)
  refine wpList_nil ?_
  go_wp2_with fail
  exact bodyPost_ret (v := .tuple #[.agg pkZ, .slice none 0 0, .slice none 0 0, .int .i64 2]) (by simp [results, Try.results60, asAddr, hld.out, Result.andThen]) rfl hfin.out
set_option maxRecDepth 20000 in
set_option maxHeartbeats 16000000 in
theorem outer_else (n : Nat) (xs : List UInt8) (hn0 : n ≠ 0) (hv : (xs.getD 0 0).toNat / 16 ≠ 4 ∧ (xs.getD 0 0).toNat / 16 ≠ 6) (cs : Array Value) (rest ps : List UInt8) (A : Option Addr) (c : Nat) (w : World) (hx : IsB w w.heap.size A n xs) (hnc : n ≤ c) (hcm : c ≤ maxLen) :
    Calls Try.prog 60 #[.slice A n c] w fun e w' => OuterEnd 10 cs rest ps w w' e := by
  obtain ⟨zs, hzs⟩ : ∃ zs, pkZ = zs := ⟨_, rfl⟩
  have hbz : Below w.heap.size w (w.alloc (.cells pkZ 58)) := (Below.refl _ _).alloc (Nat.le_refl _) _
  have hgz := blk_new w 58 pkZ
  obtain ⟨w1, hw1⟩ : ∃ w1, w.alloc (.cells pkZ 58) = w1 := ⟨_, rfl⟩
  have hz1 : w.heap.size < w1.heap.size := by rw [← hw1]; simp
  rw [hw1] at hbz hgz
  rw [hzs] at hgz
  unfold pkZ at hw1
  have hzz : zs.size = 23 := hzs ▸ pkZ_size
  obtain ⟨b, off, v0, rfl, hbl, hv0, hv0l, hc0⟩ := (hx.on hbz).byte (i := 0) (by omega)
  rw [Nat.add_zero] at hc0
  rw [hv0] at hv
  have t0 : ((n : Int) == 0) = false := by rw [beq_eq_false_iff_ne]; omega
  have t1 : (0 : Int) < (n : Int) := by omega
  have t2 : 0 < n := by omega
  have t3 : (((v0 : Int) / 16) == 4) = false := by rw [beq_eq_false_iff_ne]; omega
  have t4 : (((v0 : Int) / 16) != 6) = true := by rw [bne_iff_ne]; omega
  replace hx := hide hx
  replace hbz := hide hbz
  replace hgz := hide hgz
  replace hzs := hide hzs
  replace hv0 := hide hv0
  replace hv := hide hv
  replace hn0 := hide hn0
  go_enter Try.func60, Try.ntmps60
  go_upto_region 9 with fail
  clear hw1
  apply wp_region_lit
  iterate 1 (refine wpList_plain rfl fun K hK => ?_; go_simp; refine hK _ _ ?_; clear hK K)
  refine wpl_st rfl 58 (.tmp 2) (.tmp 69) rfl w.heap.size 0 rfl pkZ rfl hgz.out (by rw [hzz, pkZ_size]; omega) size_pk pkZ_one fun w9 hg9 g9 => ?_
  rw [putA_whole _ _ (by rw [hzz, pkZ_size])] at hg9
  have hB9 := hbz.out.trans (below_grown g9 (by omega) (by omega))
  have hld : (loadVar 58 ⟨w.heap.size, 0, none⟩).run Try.prog w9 = .ok (.agg pkZ) w9 := by
    simpa using run_loadVar_mid w9 w.heap.size 0 58 pkZ.toList _ (blk_range hg9) Try.underlying58 rfl (by rw [size_pk, Array.length_toList, pkZ_size])
  have hfin : OuterEnd 10 cs rest ps w w9 (.returned (.tuple #[.agg pkZ, .slice none 0 0, .slice none 0 0, .int .i64 10])) := ⟨_, _, _, rfl, pkZ_size, pkZ_one, fun h => absurd h (by omega), hB9⟩
  clear g9
  replace hg9 := hide hg9
  replace hB9 := hide hB9
  replace hfin := hide hfin
  replace hld := hide hld
  iterate 3 (refine wpList_plain rfl fun K hK => ?_; go_simp; refine hK _ _ ?_; clear hK K)
  refine wpList_nil ?_
  go_wp2_with fail
  exact bodyPost_ret (v := .tuple #[.agg pkZ, .slice none 0 0, .slice none 0 0, .int .i64 10]) (by simp [results, Try.results60, asAddr, hld.out, Result.andThen]) rfl hfin.out
set_option maxRecDepth 20000 in
set_option maxHeartbeats 16000000 in
theorem outer_four (n : Nat) (xs : List UInt8) (hn0 : n ≠ 0) (hv : (xs.getD 0 0).toNat / 16 = 4) (K tos id : Nat) (df mf : Bool) (frag ttl proto slo dlo n1 m1 : Nat) (rest : List UInt8) (hF : Tun.FourIs n xs K tos id df mf frag ttl proto slo dlo n1 m1 rest) (hsz : 20 + n1 + m1 ≤ 1099511627776) (hpr : proto ≤ 255) (hsl : slo < 4294967296) (hdl : dlo < 4294967296)
    (KK : Nat) (hKK : (if K = 0 ∧ (0 < frag ∨ mf = true) then 21 else K) = KK)
    (A : Option Addr) (c : Nat) (w : World) (hx : IsB w w.heap.size A n xs) (hnc : n ≤ c) (hcm : c ≤ maxLen) :
    Calls Try.prog 60 #[.slice A n c] w fun e w' => OuterEnd KK (p4A proto slo dlo ttl (20 + n1 + m1)) rest (ps4 slo dlo proto m1) w w' e := by
  obtain ⟨zs, hzs⟩ : ∃ zs, pkZ = zs := ⟨_, rfl⟩
  have hbz : Below w.heap.size w (w.alloc (.cells pkZ 58)) := (Below.refl _ _).alloc (Nat.le_refl _) _
  have hgz := blk_new w 58 pkZ
  obtain ⟨w1, hw1⟩ : ∃ w1, w.alloc (.cells pkZ 58) = w1 := ⟨_, rfl⟩
  have hz1 : w.heap.size < w1.heap.size := by rw [← hw1]; simp
  rw [hw1] at hbz hgz
  rw [hzs] at hgz
  unfold pkZ at hw1
  have hzz : zs.size = 23 := hzs ▸ pkZ_size
  have hFc := hF A c w1 (hx.on hbz) hnc hcm
  obtain ⟨b, off, v0, rfl, hbl, hv0, hv0l, hc0⟩ := (hx.on hbz).byte (i := 0) (by omega)
  rw [Nat.add_zero] at hc0
  rw [hv0] at hv
  have t0 : ((n : Int) == 0) = false := by rw [beq_eq_false_iff_ne]; omega
  have t1 : (0 : Int) < (n : Int) := by omega
  have t2 : 0 < n := by omega
  have t3 : (((v0 : Int) / 16) == 4) = true := by rw [beq_iff_eq]; omega
  replace hx := hide hx
  replace hbz := hide hbz
  replace hgz := hide hgz
  replace hFc := hide hFc
  replace hF := hide hF
  replace hzs := hide hzs
  replace hv := hide hv
  replace hv0 := hide hv0
  replace hKK := hide hKK
  replace hn0 := hide hn0
  go_enter Try.func60, Try.ntmps60
  go_wp2_with fail
  refine hFc.out.mono ?_
  rintro e w2 ⟨A1, c1, A2, c2, rfl, hi2, hc2, hm2, hb2⟩
  have z2 := hb2.size
  obtain ⟨w3, hw3⟩ : ∃ w3, w2.alloc (Four.hdC tos id df mf frag ttl proto false 0 slo false 0 dlo A1 n1 c1) = w3 := ⟨_, rfl⟩
  have hb23 : Below w2.heap.size w2 w3 := hw3 ▸ (Below.refl _ _).alloc (Nat.le_refl _) _
  have hgh : w3.heap[w2.heap.size]? = some (Four.hdC tos id df mf frag ttl proto false 0 slo false 0 dlo A1 n1 c1) := hw3 ▸ blk_new _ _ _
  have hz3 : w2.heap.size < w3.heap.size := by rw [← hw3]; simp
  unfold Four.hdC at hgh hw3
  have hB3 := (hbz.out.trans (hb2.mono (by omega))).trans (hb23.mono (by omega))
  have hg03 := blk_below hb23 (by omega) (blk_below hb2 hz1 hgz.out)
  have hi3 := hi2.on hb23
  have hrm : rest.length = m1 := hi2.1
  have hch := blk_cell hgh
  clear hw1 hb2 hb23 hi2 hc0 t0 t1 t2 t3
  unfold Four.hdV
  replace hgh := hide hgh
  replace hB3 := hide hB3
  replace hg03 := hide hg03
  replace hi3 := hide hi3
  obtain ⟨BB, hBB⟩ : ∃ BB, decide (K = 0 ∧ (0 < frag ∨ mf = true)) = BB := ⟨_, rfl⟩
  replace hBB := hide hBB
  go_upto_region 5 with fail
  go_cut [37] (fun bv wx => bv = .bool BB ∧ w3 = wx)
  case first =>
    have hBv := hBB.out
    by_cases hK0 : K = 0
    · subst hK0
      by_cases hf : 0 < frag
      · rw [decide_eq_true ⟨rfl, .inl hf⟩] at hBv
        subst hBv
        have f1 : (0 : Int) < (frag : Int) := by omega
        go_wp2_with fail
        go_meet
        exact ⟨rfl, rfl⟩
      · have f1 : ¬ (0 : Int) < (frag : Int) := by omega
        rcases mf with _ | _
        · rw [decide_eq_false (fun h => h.2.elim hf (fun h => by cases h))] at hBv
          subst hBv
          go_wp2_with fail
          go_meet
          exact ⟨rfl, rfl⟩
        · rw [decide_eq_true ⟨rfl, .inr rfl⟩] at hBv
          subst hBv
          go_wp2_with fail
          go_meet
          exact ⟨rfl, rfl⟩
    · rw [decide_eq_false (fun h => hK0 h.1)] at hBv
      subst hBv
      have f1 : ((K : Int) == 0) = false := by rw [beq_eq_false_iff_ne]; omega
      go_wp2_with fail
      go_meet
      exact ⟨rfl, rfl⟩
  case rest =>
  obtain ⟨rfl, rfl⟩ := hcut
  go_upto_if 37 with fail
  go_cut [8] (fun ev wx => ev = .int .i64 (KK : Int) ∧ w3 = wx)
  case first =>
    have hBv := hBB.out
    have hKv := hKK.out
    rcases BB with _ | _
    · rw [if_neg (of_decide_eq_false hBv)] at hKv
      subst hKv
      go_wp2_with fail
      go_meet
      exact ⟨rfl, rfl⟩
    · rw [if_pos (of_decide_eq_true hBv)] at hKv
      subst hKv
      go_wp2_with fail
      go_meet
      exact ⟨rfl, rfl⟩
  case rest =>
  obtain ⟨rfl, rfl⟩ := hcut
  clear hw3 hch
  have q1 : IntKind.i64.wrap ((20 : Int) + (n1 : Int) + (m1 : Int)) = ((20 + n1 + m1 : Nat) : Int) := by rw [wraps62 _ (by omega) (by omega)]; omega
  go_upto_region 7 with fail
  refine wp_region_S w3.heap.size (fun k => k = w.heap.size) (by as_aux_lemma => kernel_rfl) ?_
  intro wd hbd
  have zd := hbd.size
  have hghd := blk_below hbd hz3 hgh.out
  have hgkd := blk_below hbd (by omega) hg03.out
  have hid := hi3.out.on hbd
  have hBd := hB3.out.trans (hbd.mono (by omega))
  have hcl := fun (l : KeptSW w3.heap.size (fun k => k = w.heap.size) wd) (o : Nat) => blk_cell (l.blk hghd hz3 (by omega)) o
  replace hghd := hide hghd
  replace hgkd := hide hgkd
  replace hid := hide hid
  replace hBd := hide hBd
  replace hbd := hide hbd
  refine wpS_seg w3.heap.size (fun k => k = w.heap.size) 0 10 (fuel := 20) (by as_aux_lemma => kernel_rfl) (fun d _ _ _ _ h => by cases d <;> exact h) (by as_aux_lemma => kernel_rfl) (by as_aux_lemma => kernel_rfl) ?_
  simp only [List.drop_zero, List.take_succ_cons, List.take_zero]
  iterate 10 (refine wpQS_step (fun K hK => ?_); go_simp; refine hK _ ?_; clear hK K)
  refine wpQF_nil ?_
  refine wpS_seg w3.heap.size (fun k => k = w.heap.size) 11 2 (fuel := 18) (by as_aux_lemma => kernel_rfl) (fun d _ _ _ _ h => by cases d <;> exact h) (by as_aux_lemma => kernel_rfl) (by as_aux_lemma => kernel_rfl) ?_
  simp only [List.drop_succ_cons, List.drop_zero, List.take_succ_cons, List.take_zero]
  iterate 2 (refine wpQS_step (fun K hK => ?_); go_simp; refine hK _ ?_; clear hK K)
  refine wpQF_nil ?_
  refine wpS_seg w3.heap.size (fun k => k = w.heap.size) 15 9 (fuel := 9) (by as_aux_lemma => kernel_rfl) (fun d _ _ _ _ h => by cases d <;> exact h) (by as_aux_lemma => kernel_rfl) (by as_aux_lemma => kernel_rfl) ?_
  simp only [List.drop_succ_cons, List.drop_zero, List.take_succ_cons, List.take_zero]
  iterate 9 (refine wpQS_step (fun K hK => ?_); go_simp; refine hK _ ?_; clear hK K)
  refine wpQF_nil ?_
  refine wpS_seg w3.heap.size (fun k => k = w.heap.size) 25 1 (fuel := 8) (by as_aux_lemma => kernel_rfl) (fun d _ _ _ _ h => by cases d <;> exact h) (by as_aux_lemma => kernel_rfl) (by as_aux_lemma => kernel_rfl) ?_
  simp only [List.drop_succ_cons, List.drop_zero, List.take_succ_cons, List.take_zero]
  iterate 1 (refine wpQS_step (fun K hK => ?_); go_simp; refine hK _ ?_; clear hK K)
  refine wpQF_nil ?_
  clear hcl
  refine wpF_step 10 rfl (by as_aux_lemma => kernel_rfl) (fun K hK => ?_)
  go_simp
  go_at_call 50
  refine (Four.len_any tos id df mf frag ttl proto false 0 slo false 0 dlo A1 n1 c1 wd (by omega)).mono ?_
  rintro e w4 ⟨rfl, hb4⟩
  have z4 := hb4.size
  have hgk4 := blk_below hb4 (by omega) hgkd.out
  have hi4 := hid.out.on hb4
  have hB4 := hBd.out.trans (hb4.mono (by omega))
  refine hK _ _ (keptS_of_below hb4 (by omega)) ?_
  clear hK K hb4
  replace hgk4 := hide hgk4
  replace hi4 := hide hi4
  replace hB4 := hide hB4
  refine wpS_seg w3.heap.size (fun k => k = w.heap.size) 13 2 (fuel := 5) (by as_aux_lemma => kernel_rfl) (fun d _ _ _ _ h => by cases d <;> exact h) (by as_aux_lemma => kernel_rfl) (by as_aux_lemma => kernel_rfl) ?_
  simp only [List.drop_succ_cons, List.drop_zero, List.take_succ_cons, List.take_zero]
  iterate 2 (refine wpQS_step (fun K hK => ?_); go_simp; refine hK _ ?_; clear hK K)
  refine wpQF_nil ?_
  clear q1
  refine wpF_step 24 rfl (by as_aux_lemma => kernel_rfl) (fun K hK => ?_)
  go_simp
  go_at_call 86
  refine (Four.pseudo_any false 0 slo false 0 dlo proto m1 proto m1 (by omega) (by rw [IntKind.wrap_u64]; omega) w4 (by omega) (by omega) (by omega)).mono ?_
  rintro e w6 ⟨v, rfl, hown, hb6⟩
  have hown' : OwnB w6 w4.heap.size v (ps4 slo dlo proto m1) := hown
  have z6 := hb6.size
  have hg0l := blk_below hb6 (by omega) hgk4.out
  have hir := hi4.out.on hb6
  have hBl := hB4.out.trans (hb6.mono (by omega))
  obtain ⟨pl, hpl⟩ : ∃ pl, (ps4 slo dlo proto m1).length = pl := ⟨_, rfl⟩
  obtain ⟨A6, c6, rfl, hc6, hm6, hip⟩ := hown'.form
  rw [hpl] at hip hc6 ⊢
  refine hK _ _ (keptS_of_below hb6 (by omega)) ?_
  clear hK K hown hown' hb6 hgk4 hi4 hB4
  have hn8 : ∀ o v, zs[o]? = some v → ∀ x, v ≠ u8v x := hzs.out ▸ pkZ_no8
  replace hg0l := hide hg0l
  replace hBl := hide hBl
  replace hir := hide hir
  replace hip := hide hip
  replace hpl := hide hpl
  replace hn8 := hide hn8
  refine wpF_st 26 rfl (by as_aux_lemma => kernel_rfl) rfl 58 (.tmp 2) (.tmp 52) rfl w.heap.size 0 rfl (p4A proto slo dlo ttl (20 + n1 + m1)) rfl hg0l.out (by rw [hzz]; exact (show 0 + 23 ≤ 23 by omega)) size_pk (p4A_one _ _ _ _ _) fun w9 hg9 g9 => ?_
  rw [putA_whole _ (p4A proto slo dlo ttl (20 + n1 + m1)) (by rw [hzz]; rfl)] at hg9
  have hB9 := hBl.out.trans (below_grown g9 (by have := hBl.out.size; omega) (by omega))
  have hi9 := (hir.out.past hg0l.out hn8.out g9).more g9.size
  have hj9 := (hip.out.past hg0l.out hn8.out g9).more g9.size
  have hld : (loadVar 58 ⟨w.heap.size, 0, none⟩).run Try.prog w9 = .ok (.agg (p4A proto slo dlo ttl (20 + n1 + m1))) w9 := by
    simpa using run_loadVar_mid w9 w.heap.size 0 58 (p4A proto slo dlo ttl (20 + n1 + m1)).toList _ (blk_range hg9) Try.underlying58 rfl size_pk
  have hfin : OuterEnd KK (p4A proto slo dlo ttl (20 + n1 + m1)) rest (ps4 slo dlo proto m1) w w9 (.returned (.tuple #[.agg (p4A proto slo dlo ttl (20 + n1 + m1)), .slice A2 m1 c2, .slice A6 pl c6, .int .i64 (KK : Int)])) :=
    ⟨_, _, _, rfl, rfl, p4A_one _ _ _ _ _, fun _ => ⟨rfl, A2, c2, A6, c6, by rw [hrm], by rw [hpl.out], by rw [hrm]; exact hi9, by rw [hpl.out]; exact hj9, by omega, hm2⟩, hB9⟩
  refine ⟨keptS_grown1 g9 (by have := hBl.out.size; omega) rfl, ?_⟩
  clear g9 hg9 hi9 hj9
  replace hB9 := hide hB9
  replace hfin := hide hfin
  replace hld := hide hld
  refine wpF_step 27 rfl (by as_aux_lemma => kernel_rfl) (fun K hK => ?_)
  go_simp
  refine hK _ _ (keptS_refl _ _ _) ?_
  clear hK K
  refine wpF_step 28 rfl (by as_aux_lemma => kernel_rfl) (fun K hK => ?_)
  go_simp
  refine hK _ _ (keptS_refl _ _ _) ?_
  clear hK K
  refine wpF_step 29 rfl (by as_aux_lemma => kernel_rfl) (fun K hK => ?_)
  go_simp
  refine hK _ _ (keptS_refl _ _ _) ?_
  clear hK K
  refine wpF_done (by as_aux_lemma => kernel_rfl) ?_ 0
  go_wp2_with fail
  exact bodyPost_ret (v := .tuple #[.agg (p4A proto slo dlo ttl (20 + n1 + m1)), .slice A2 m1 c2, .slice A6 pl c6, .int .i64 (KK : Int)]) (by simp [results, Try.results60, asAddr, hld.out, Result.andThen]) rfl hfin.out
end Pkt
end Go.Proofs.Ytdmgbngdpjcliaa
/- Law 13's outer, by contract, in version 6. Conditions: what six.Parse makes of the bytes. (Written by gen_pktouter.py) -/
namespace Go.Proofs.Ytdmgbngdpjcliaa
open Go.RowKit Go.ChangeShapes Go.WideShapes Go.ChangeAt Go.Deep
namespace Pkt
def p6O (sv : Bool) (proto sh sl dh dl ho sz : Nat) : Array Value := #[.bool true, .int .i64 (proto : Int), .bool sv, .int .u64 (sh : Int), .int .u64 (sl : Int), .bool sv, .int .u64 (dh : Int), .int .u64 (dl : Int), .int .i64 0, .int .i64 0, .int .i64 (ho : Int), .int .i64 0, .bool false, .int .i64 0, .bool false, .int .u64 0, .int .u64 0, .bool false, .int .u64 0, .int .u64 0, .int .i64 0, .int .i64 0, .int .i64 (sz : Int)]
theorem p6O_one (sv : Bool) (proto sh sl dh dl ho sz : Nat) : (p6O sv proto sh sl dh dl ho sz).all (·.oneCell') = true := pkG_one true proto sv sh sl sv dh dl 0 0 ho 0 false 0 false 0 0 false 0 0 0 0 sz
set_option maxRecDepth 20000 in
set_option maxHeartbeats 16000000 in
theorem outer_six (n : Nat) (xs : List UInt8) (hn0 : n ≠ 0) (hv : (xs.getD 0 0).toNat / 16 = 6) (K : Nat) (sv : Bool) (cl la ho sh sl dh dl : Nat) (acc : List (Int × List UInt8)) (proto m1 : Nat) (rest : List UInt8) (hF : Tun.SixIs n xs K cl la ho sv sh sl sv dh dl acc proto m1 rest) (hac : acc.length ≤ 8) (hal : ∀ e ∈ acc, e.2.length ≤ 2047) (hmm : m1 ≤ 1099511627776) (hpr : proto ≤ 255) (hsh : sh < 18446744073709551616) (hsl : sl < 18446744073709551616) (hdh : dh < 18446744073709551616) (hdl : dl < 18446744073709551616)
    (T : Nat) (hT : 40 + Six.sumP acc = T) (KK : Nat) (hKK : (if K = 0 ∧ (0 < Six.fragP acc ∨ Six.moreP acc = true) then 21 else K) = KK)
    (A : Option Addr) (c : Nat) (w : World) (hx : IsB w w.heap.size A n xs) (hnc : n ≤ c) (hcm : c ≤ maxLen) :
    Calls Try.prog 60 #[.slice A n c] w fun e w' => OuterEnd KK (p6O sv proto sh sl dh dl ho (T + m1)) rest (Six.pseudoB sh sl dh dl m1 proto) w w' e := by
  obtain ⟨zs, hzs⟩ : ∃ zs, pkZ = zs := ⟨_, rfl⟩
  have hbz : Below w.heap.size w (w.alloc (.cells pkZ 58)) := (Below.refl _ _).alloc (Nat.le_refl _) _
  have hgz := blk_new w 58 pkZ
  obtain ⟨w1, hw1⟩ : ∃ w1, w.alloc (.cells pkZ 58) = w1 := ⟨_, rfl⟩
  have hz1 : w.heap.size < w1.heap.size := by rw [← hw1]; simp
  rw [hw1] at hbz hgz
  rw [hzs] at hgz
  unfold pkZ at hw1
  have hzz : zs.size = 23 := hzs ▸ pkZ_size
  have hFc := hF A c w1 (hx.on hbz) hnc hcm
  obtain ⟨b, off, v0, rfl, hbl, hv0, hv0l, hc0⟩ := (hx.on hbz).byte (i := 0) (by omega)
  rw [Nat.add_zero] at hc0
  rw [hv0] at hv
  have t0 : ((n : Int) == 0) = false := by rw [beq_eq_false_iff_ne]; omega
  have t1 : (0 : Int) < (n : Int) := by omega
  have t2 : 0 < n := by omega
  have t3 : (((v0 : Int) / 16) == 4) = false := by rw [beq_eq_false_iff_ne]; omega
  have t4 : (((v0 : Int) / 16) != 6) = false := by rw [bne_eq_false_iff_eq]; omega
  replace hx := hide hx
  replace hbz := hide hbz
  replace hgz := hide hgz
  replace hFc := hide hFc
  replace hF := hide hF
  replace hzs := hide hzs
  replace hv := hide hv
  replace hv0 := hide hv0
  replace hKK := hide hKK
  replace hn0 := hide hn0
  go_enter Try.func60, Try.ntmps60
  go_wp2_with fail
  refine hFc.out.mono ?_
  rintro e w2 ⟨X, m, xc, A2, c2, es, rfl, hpe, hX2, hmx, hxm, hi2, hc2, hm2, hb2⟩
  have z2 := hb2.size
  obtain ⟨w3, hw3⟩ : ∃ w3, w2.alloc (Six.hdC (cl : Int) la ho sv sh sl sv dh dl X m xc proto) = w3 := ⟨_, rfl⟩
  have hb23 : Below w2.heap.size w2 w3 := hw3 ▸ (Below.refl _ _).alloc (Nat.le_refl _) _
  have hgh : w3.heap[w2.heap.size]? = some (Six.hdC (cl : Int) la ho sv sh sl sv dh dl X m xc proto) := hw3 ▸ blk_new _ _ _
  have hz3 : w2.heap.size < w3.heap.size := by rw [← hw3]; simp
  unfold Six.hdC at hgh hw3
  have hB3 := (hbz.out.trans (hb2.mono (by omega))).trans (hb23.mono (by omega))
  have hg03 := blk_below hb23 (by omega) (blk_below hb2 hz1 hgz.out)
  have hi3 := hi2.on hb23
  have hX3 := hX2.on hb23
  have hrm : rest.length = m1 := hi2.1
  have hel : es.length = m := hX2.1
  have hm8 : m ≤ 8 := by rw [← hel, ← Six.pes_length, hpe]; exact hac
  have hmL : m ≤ maxLen := by unfold maxLen; omega
  have heb : ∀ e ∈ es, e.xs.length ≤ 2047 := fun e he => hal (e.k, e.xs) (by rw [← hpe]; exact List.mem_map.2 ⟨e, he, rfl⟩)
  have hTs : 40 + Six.sumL es = T := by rw [Six.sumL_pes, hpe, hT]
  have hTl : T ≤ 16424 := by
    have := Six.sumP_le acc hal
    omega
  obtain ⟨fr, hfr⟩ : ∃ fr, Six.fragP acc = fr := ⟨_, rfl⟩
  obtain ⟨mr, hmr⟩ : ∃ mr, Six.moreP acc = mr := ⟨_, rfl⟩
  have hfs : beN (Six.partB es) 1 2 / 8 = fr := by rw [Six.pes_frag, hpe, hfr]
  have hms : Six.moreP (Six.pes es) = mr := by rw [hpe, hmr]
  have hKv := hKK.out
  rw [hfr, hmr] at hKv
  obtain ⟨BB, hBB⟩ : ∃ BB, decide (K = 0 ∧ (0 < fr ∨ mr = true)) = BB := ⟨_, rfl⟩
  have hch := blk_cell hgh
  clear hw1 hb2 hb23 hi2 hc0 t0 t1 t2 t3 t4
  unfold Six.hdV
  replace hgh := hide hgh
  replace hB3 := hide hB3
  replace hg03 := hide hg03
  replace hi3 := hide hi3
  replace hX3 := hide hX3
  replace heb := hide heb
  replace hTs := hide hTs
  replace hfs := hide hfs
  replace hms := hide hms
  replace hac := hide hac
  replace hal := hide hal
  replace hpe := hide hpe
  replace hKv := hide hKv
  replace hBB := hide hBB
  clear hX2 hfr hmr
  go_upto_region 11 with fail
  go_cut [86] (fun bv wx => ∃ w5, bv = .bool BB ∧ Below w3.heap.size w3 w5 ∧ w5 = wx)
  case first =>
    by_cases hK0 : K = 0
    · subst hK0
      go_wp2_with fail
      refine (Six.frag_any (cl : Int) la ho sv sh sl sv dh dl X m xc proto es _ hX3.out hmL).mono ?_
      rintro e wf ⟨rfl, hbf⟩
      rw [hfs.out]
      have hXf := hX3.out.on hbf
      have hghf := blk_below hbf hz3 hgh.out
      clear hw3 hch
      have hch := blk_cell hghf
      have zf := hbf.size
      by_cases hf : 0 < fr
      · obtain rfl : BB = true := by rw [← hBB.out]; simp [hf]
        have f1 : (0 : Int) < (fr : Int) := by omega
        replace hXf := hide hXf
        replace hghf := hide hghf
        replace hbf := hide hbf
        go_wp2_with fail
        go_meet
        exact ⟨_, by first | rfl | trivial, hbf.out, rfl⟩
      · have f1 : ¬ (0 : Int) < (fr : Int) := by omega
        replace hXf := hide hXf
        replace hghf := hide hghf
        replace hbf := hide hbf
        go_wp2_with fail
        refine (Six.more_any (cl : Int) la ho sv sh sl sv dh dl X m xc proto es _ hXf.out hmL).mono ?_
        rintro e wm ⟨rfl, hbm⟩
        rw [hms.out]
        have hbfm := hbf.out.trans (hbm.mono (by omega))
        clear hch hbm
        replace hbfm := hide hbfm
        rcases mr with _ | _
        · obtain rfl : BB = false := by rw [← hBB.out]; simp; omega
          go_wp2_with fail
          go_meet
          exact ⟨_, by first | rfl | trivial, hbfm.out, rfl⟩
        · obtain rfl : BB = true := by rw [← hBB.out]; simp
          go_wp2_with fail
          go_meet
          exact ⟨_, by first | rfl | trivial, hbfm.out, rfl⟩
    · have hBv := hBB.out
      rw [decide_eq_false (fun h => hK0 h.1)] at hBv
      subst hBv
      have f1 : ((K : Int) == 0) = false := by rw [beq_eq_false_iff_ne]; omega
      go_wp2_with fail
      go_meet
      exact ⟨_, rfl, Below.refl _ _, rfl⟩
  case rest =>
  obtain ⟨w5, rfl, hb5, rfl⟩ := hcut
  have z5 := hb5.size
  have hgh5 := blk_below hb5 hz3 hgh.out
  have hX5 := hX3.out.on hb5
  have hi5 := hi3.out.on hb5
  have hg05 := blk_below hb5 (by omega) hg03.out
  have hB5 := hB3.out.trans (hb5.mono (by omega))
  clear hw3 hch hb5 hB3 hg03 hi3 hX3 hgh
  replace hgh5 := hide hgh5
  replace hX5 := hide hX5
  replace hi5 := hide hi5
  replace hg05 := hide hg05
  replace hB5 := hide hB5
  go_upto_if 86 with fail
  go_cut [11] (fun ev wx => ev = .int .i64 (KK : Int) ∧ w5 = wx)
  case first =>
    have hBv := hBB.out
    have hKw := hKv.out
    rcases BB with _ | _
    · rw [if_neg (of_decide_eq_false hBv)] at hKw
      subst hKw
      go_wp2_with fail
      go_meet
      exact ⟨rfl, rfl⟩
    · rw [if_pos (of_decide_eq_true hBv)] at hKw
      subst hKw
      go_wp2_with fail
      go_meet
      exact ⟨rfl, rfl⟩
  case rest =>
  obtain ⟨rfl, rfl⟩ := hcut
  have q1 : IntKind.i64.wrap ((T : Int) + (m1 : Int)) = ((T + m1 : Nat) : Int) := by rw [wraps62 _ (by omega) (by omega)]; omega
  go_upto_region 13 with fail
  refine wp_region_S w5.heap.size (fun k => k = w.heap.size) (by as_aux_lemma => kernel_rfl) ?_
  intro wd hbd
  have zd := hbd.size
  have hghd := blk_below hbd (by omega) hgh5.out
  have hgkd := blk_below hbd (by omega) hg05.out
  have hid := hi5.out.on hbd
  have hXd := hX5.out.on hbd
  have hBd := hB5.out.trans (hbd.mono (by omega))
  have hcl := fun (l : KeptSW w5.heap.size (fun k => k = w.heap.size) wd) (o : Nat) => blk_cell (l.blk hghd (by omega) (by omega)) o
  replace hghd := hide hghd
  replace hgkd := hide hgkd
  replace hid := hide hid
  replace hBd := hide hBd
  replace hbd := hide hbd
  replace hXd := hide hXd
  refine wpS_seg w5.heap.size (fun k => k = w.heap.size) 0 10 (fuel := 20) (by as_aux_lemma => kernel_rfl) (fun d _ _ _ _ h => by cases d <;> exact h) (by as_aux_lemma => kernel_rfl) (by as_aux_lemma => kernel_rfl) ?_
  simp only [List.drop_zero, List.take_succ_cons, List.take_zero]
  iterate 10 (refine wpQS_step (fun K hK => ?_); go_simp; refine hK _ ?_; clear hK K)
  refine wpQF_nil ?_
  refine wpS_seg w5.heap.size (fun k => k = w.heap.size) 11 2 (fuel := 18) (by as_aux_lemma => kernel_rfl) (fun d _ _ _ _ h => by cases d <;> exact h) (by as_aux_lemma => kernel_rfl) (by as_aux_lemma => kernel_rfl) ?_
  simp only [List.drop_succ_cons, List.drop_zero, List.take_succ_cons, List.take_zero]
  iterate 2 (refine wpQS_step (fun K hK => ?_); go_simp; refine hK _ ?_; clear hK K)
  refine wpQF_nil ?_
  refine wpS_seg w5.heap.size (fun k => k = w.heap.size) 15 9 (fuel := 9) (by as_aux_lemma => kernel_rfl) (fun d _ _ _ _ h => by cases d <;> exact h) (by as_aux_lemma => kernel_rfl) (by as_aux_lemma => kernel_rfl) ?_
  simp only [List.drop_succ_cons, List.drop_zero, List.take_succ_cons, List.take_zero]
  iterate 9 (refine wpQS_step (fun K hK => ?_); go_simp; refine hK _ ?_; clear hK K)
  refine wpQF_nil ?_
  refine wpS_seg w5.heap.size (fun k => k = w.heap.size) 25 1 (fuel := 8) (by as_aux_lemma => kernel_rfl) (fun d _ _ _ _ h => by cases d <;> exact h) (by as_aux_lemma => kernel_rfl) (by as_aux_lemma => kernel_rfl) ?_
  simp only [List.drop_succ_cons, List.drop_zero, List.take_succ_cons, List.take_zero]
  iterate 1 (refine wpQS_step (fun K hK => ?_); go_simp; refine hK _ ?_; clear hK K)
  refine wpQF_nil ?_
  clear hcl
  refine wpF_step 10 rfl (by as_aux_lemma => kernel_rfl) (fun K hK => ?_)
  go_simp
  go_at_call 51
  refine (Six.len_any (cl : Int) la ho sv sh sl sv dh dl X m xc proto es wd hXd.out hm8 heb.out T hTs.out).mono ?_
  rintro e w4 ⟨rfl, hb4⟩
  have z4 := hb4.size
  have hgk4 := blk_below hb4 (by omega) hgkd.out
  have hi4 := hid.out.on hb4
  have hB4 := hBd.out.trans (hb4.mono (by omega))
  refine hK _ _ (keptS_of_below hb4 (by omega)) ?_
  clear hK K hb4
  replace hgk4 := hide hgk4
  replace hi4 := hide hi4
  replace hB4 := hide hB4
  refine wpS_seg w5.heap.size (fun k => k = w.heap.size) 13 2 (fuel := 5) (by as_aux_lemma => kernel_rfl) (fun d _ _ _ _ h => by cases d <;> exact h) (by as_aux_lemma => kernel_rfl) (by as_aux_lemma => kernel_rfl) ?_
  simp only [List.drop_succ_cons, List.drop_zero, List.take_succ_cons, List.take_zero]
  iterate 2 (refine wpQS_step (fun K hK => ?_); go_simp; refine hK _ ?_; clear hK K)
  refine wpQF_nil ?_
  clear q1
  refine wpF_step 24 rfl (by as_aux_lemma => kernel_rfl) (fun K hK => ?_)
  go_simp
  go_at_call 72
  refine (Six.pseudo_any sv sh sl sv dh dl proto m1 proto m1 (by omega) (by rw [IntKind.wrap_u64]; omega) w4 hsh hsl hdh hdl (by omega)).mono ?_
  rintro e w6 ⟨v, rfl, hown, hb6⟩
  have hown' : OwnB w6 w4.heap.size v (Six.pseudoB sh sl dh dl m1 proto) := hown
  have z6 := hb6.size
  have hg0l := blk_below hb6 (by omega) hgk4.out
  have hir := hi4.out.on hb6
  have hBl := hB4.out.trans (hb6.mono (by omega))
  obtain ⟨pl, hpl⟩ : ∃ pl, (Six.pseudoB sh sl dh dl m1 proto).length = pl := ⟨_, rfl⟩
  obtain ⟨A6, c6, rfl, hc6, hm6, hip⟩ := hown'.form
  rw [hpl] at hip hc6 ⊢
  refine hK _ _ (keptS_of_below hb6 (by omega)) ?_
  clear hK K hown hown' hb6 hgk4 hi4 hB4
  have hn8 : ∀ o v, zs[o]? = some v → ∀ x, v ≠ u8v x := hzs.out ▸ pkZ_no8
  replace hg0l := hide hg0l
  replace hBl := hide hBl
  replace hir := hide hir
  replace hip := hide hip
  replace hpl := hide hpl
  replace hn8 := hide hn8
  refine wpF_st 26 rfl (by as_aux_lemma => kernel_rfl) rfl 58 (.tmp 2) (.tmp 101) rfl w.heap.size 0 rfl (p6O sv proto sh sl dh dl ho (T + m1)) rfl hg0l.out (by rw [hzz]; exact (show 0 + 23 ≤ 23 by omega)) size_pk (p6O_one _ _ _ _ _ _ _ _) fun w9 hg9 g9 => ?_
  rw [putA_whole _ (p6O sv proto sh sl dh dl ho (T + m1)) (by rw [hzz]; rfl)] at hg9
  have hB9 := hBl.out.trans (below_grown g9 (by have := hBl.out.size; omega) (by omega))
  have hi9 := (hir.out.past hg0l.out hn8.out g9).more g9.size
  have hj9 := (hip.out.past hg0l.out hn8.out g9).more g9.size
  have hld : (loadVar 58 ⟨w.heap.size, 0, none⟩).run Try.prog w9 = .ok (.agg (p6O sv proto sh sl dh dl ho (T + m1))) w9 := by
    simpa using run_loadVar_mid w9 w.heap.size 0 58 (p6O sv proto sh sl dh dl ho (T + m1)).toList _ (blk_range hg9) Try.underlying58 rfl size_pk
  have hfin : OuterEnd KK (p6O sv proto sh sl dh dl ho (T + m1)) rest (Six.pseudoB sh sl dh dl m1 proto) w w9 (.returned (.tuple #[.agg (p6O sv proto sh sl dh dl ho (T + m1)), .slice A2 m1 c2, .slice A6 pl c6, .int .i64 (KK : Int)])) :=
    ⟨_, _, _, rfl, rfl, p6O_one _ _ _ _ _ _ _ _, fun _ => ⟨rfl, A2, c2, A6, c6, by rw [hrm], by rw [hpl.out], by rw [hrm]; exact hi9, by rw [hpl.out]; exact hj9, by omega, hm2⟩, hB9⟩
  refine ⟨keptS_grown1 g9 (by have := hBl.out.size; omega) rfl, ?_⟩
  clear g9 hg9 hi9 hj9
  replace hB9 := hide hB9
  replace hfin := hide hfin
  replace hld := hide hld
  refine wpF_step 27 rfl (by as_aux_lemma => kernel_rfl) (fun K hK => ?_)
  go_simp
  refine hK _ _ (keptS_refl _ _ _) ?_
  clear hK K
  refine wpF_step 28 rfl (by as_aux_lemma => kernel_rfl) (fun K hK => ?_)
  go_simp
  refine hK _ _ (keptS_refl _ _ _) ?_
  clear hK K
  refine wpF_step 29 rfl (by as_aux_lemma => kernel_rfl) (fun K hK => ?_)
  go_simp
  refine hK _ _ (keptS_refl _ _ _) ?_
  clear hK K
  refine wpF_done (by as_aux_lemma => kernel_rfl) ?_ 0
  go_wp2_with fail
  exact bodyPost_ret (v := .tuple #[.agg (p6O sv proto sh sl dh dl ho (T + m1)), .slice A2 m1 c2, .slice A6 pl c6, .int .i64 (KK : Int)]) (by simp [results, Try.results60, asAddr, hld.out, Result.andThen]) rfl hfin.out
end Pkt
end Go.Proofs.Ytdmgbngdpjcliaa
