/- pfx: the law's bits, right. Conditions: numbers of 64 bits. -/
import Derived.Test.YtccmbnaakdffaaaDoorQPfxTexts1
import Derived.Test.YtccmbnaakdffaaaDoorQAddrParses9
import Derived.Lib.ConvBytes
namespace Go.Proofs.YtccmbnaakdffaaaDoor
open Go.RowKit Go.ChangeShapes Go.WideShapes Go.ChangeAt Go.Deep
namespace Addr05
def Adr.bits (a : Adr) : List Int := (List.range a.w).map fun i => (a.bit i : Int)
theorem Adr.bits_length (a : Adr) : a.bits.length = a.w := by unfold Adr.bits; simp
theorem Adr.bits_get (a : Adr) (i : Nat) (h : i < a.w) : a.bits[i]? = some (a.bit i : Int) := by
  unfold Adr.bits
  rw [List.getElem?_map, List.getElem?_range h]
  rfl
set_option maxRecDepth 20000 in
set_option maxHeartbeats 8000000 in
theorem bits_any (a : Adr) (ho : a.ok) (w : World) :
    Calls Tryd.prog 31 #[.agg #[.bool a.v6, .int .u64 (a.hi : Int), .int .u64 (a.lo : Int)]] w fun e w' => ∃ v, e = .returned v ∧ OwnI w' w.heap.size v a.bits ∧ Below w.heap.size w w' := by
  have hw128 := a.w_le
  have hbit : ∀ (k : Nat) (w : World), k < 128 → Calls Tryd.prog 24 #[.agg #[.bool a.v6, .int .u64 (a.hi : Int), .int .u64 (a.lo : Int)], .int .i64 (k : Int)] w fun e w' => e = .returned (.int .i64 (a.bit k : Int)) ∧ Below w.heap.size w w' := by
    intro k w hk
    have h := Bit_any a ho (k : Int) (by omega) (by omega) w
    have e : bitI a (k : Int) = (a.bit k : Int) := by unfold bitI; rw [if_pos (by omega), Int.toNat_natCast]
    rwa [e] at h
  have hfin : a.bits = (List.range a.w).map fun i => (a.bit i : Int) := rfl
  obtain ⟨BS, hBS⟩ : ∃ x, a.bits = x := ⟨_, rfl⟩
  rw [hBS] at hfin ⊢
  have hW6 : (if a.v6 = true then (128 : Int) else 32) = (a.w : Int) := by unfold Adr.w; split <;> rfl
  obtain ⟨W, hW⟩ : ∃ W, a.w = W := ⟨_, rfl⟩
  rw [hW] at hfin hW6 hw128
  obtain ⟨f, hf⟩ : ∃ f, a.bit = f := ⟨_, rfl⟩
  rw [hf] at hbit hfin
  obtain ⟨v, hi, lo⟩ := a
  dsimp only at hbit hW6 ⊢
  obtain ⟨w1, hw1⟩ : ∃ w1, w.alloc (.cells #[.bool v, .int .u64 (hi : Int), .int .u64 (lo : Int)] 24) = w1 := ⟨_, rfl⟩
  have hB : Below w.heap.size w w1 := hw1 ▸ (Below.refl _ _).alloc (Nat.le_refl _) _
  have hg : w1.heap[w.heap.size]? = some (.cells #[.bool v, .int .u64 (hi : Int), .int .u64 (lo : Int)] 24 (0, 0)) := hw1 ▸ blk_new _ _ _
  have hz1 : w.heap.size < w1.heap.size := by rw [← hw1]; simp
  have hcg := blk_cell hg
  clear ho hW hf hBS
  replace hB := hide hB
  replace hg := hide hg
  replace hbit := hide hbit
  replace hfin := hide hfin
  replace hW6 := hide hW6
  go_enter Tryd.func31, Tryd.ntmps31
  go_upto_if 7 with fail
  clear hw1
  go_cut [4] (fun nv wx => nv = .int .i64 (W : Int) ∧ w1 = wx)
  case first =>
    have hW6' := hW6.out
    cases v
    · replace hW6' := hide hW6'
      go_wp2_with fail
      go_meet
      exact ⟨by rw [← hW6'.out]; rfl, rfl⟩
    · replace hW6' := hide hW6'
      go_wp2_with fail
      go_meet
      exact ⟨by rw [← hW6'.out]; rfl, rfl⟩
  case rest =>
    obtain ⟨rfl, rfl⟩ := hcut
    clear hcg
    go_upto_block 2 with fail
    go_loopw [3, 5] (fun u iv wr => ∃ k : Nat, k ≤ W ∧ iv = .int .i64 (k : Int) ∧ OwnI wr w1.heap.size u ((List.range k).map fun i => (f i : Int)) ∧ Below w1.heap.size w1 wr) (fun _ iv _ => W - (intOf iv).toNat)
    case atStart => exact ⟨0, by omega, rfl, OwnI.nil _ _, Below.refl _ _⟩
    case round =>
      obtain ⟨k, hk, rfl, hown, hb⟩ := hrel
      have hzb := hb.size
      have hgr := blk_below hb hz1 hg.out
      have hBr := hB.out.trans (hb.mono hB.out.size)
      replace hown := hide hown
      replace hb := hide hb
      replace hBr := hide hBr
      by_cases hkW : k < W
      · have i1 : (k : Int) < (W : Int) := by omega
        have hcg := blk_cell hgr
        have hq := hbit.out k wr (by omega)
        replace hgr := hide hgr
        replace hq := hide hq
        go_wp2_with fail
        refine hq.out.mono ?_
        rintro e w5 ⟨rfl, hb5⟩
        have hown5 := (show OwnI w5 w1.heap.size _ ((List.range k).map fun i => (f i : Int)) from own_below hown.out hb5)
        have hb15 := hb.out.trans (hb5.mono hzb)
        have hz5 := hb5.size
        have hlen : ((List.range k).map fun i => (f i : Int)).length = k := by simp
        clear hb5 hcg
        obtain ⟨xs, hxs⟩ : ∃ xs, ((List.range k).map fun i => (f i : Int)) = xs := ⟨_, rfl⟩
        rw [hxs] at hlen hown5
        clear hown
        replace hown5 := hide hown5
        replace hb15 := hide hb15
        replace hxs := hide hxs
        go_wp2_with (at_builtin; refine wpl_lit_i rfl (.tmp 13) (.tmp 17) rfl w1.heap.size _ xs [(f k : Int)] 1 rfl rfl hown5.out (by omega) (by rw [hlen, List.length_singleton]; omega) ?_)
        intro v' w' h1 h2 _ _
        have hB' := hb15.out.trans h2
        clear h2
        replace h1 := hide h1
        replace hB' := hide hB'
        go_wp2_with fail
        refine ⟨⟨k + 1, by omega, by first | rfl | go_num, ?_, hB'.out⟩, by simp only [intOf]; omega⟩
        have h3 := h1.out
        rw [← hxs.out] at h3
        rw [List.range_succ, List.map_append]
        exact h3
      · obtain rfl : k = W := by omega
        have i1 : ((k : Int) < (k : Int)) = False := by simp
        clear hgr
        replace hkW := hide hkW
        go_wp2_with fail
        go_ret
        exact ⟨_, rfl, by rw [hfin.out]; exact row_weaken hown.out (by omega), hBr.out⟩
end Addr05
end Go.Proofs.YtccmbnaakdffaaaDoor
/- pfx: Parse: the prefix that a text is. Condition: the cell of bytealg.MaxLen, a text of at most 80 bytes. -/
namespace Go.Proofs.YtccmbnaakdffaaaDoor
open Go.RowKit Go.ChangeShapes Go.WideShapes Go.ChangeAt Go.Deep
namespace Addr05
def pZ : Array Value := #[.bool false, .int .u64 0, .int .u64 0, .int .i64 0]
def pArrO : Option (Adr × Nat) → Array Value
  | none => #[.bool false, .int .u64 0, .int .u64 0, .int .i64 0]
  | some p => #[.bool p.1.v6, .int .u64 (p.1.hi : Int), .int .u64 (p.1.lo : Int), .int .i64 (p.2 : Int)]
theorem p_one (v6 : Bool) (hi lo i : Int) : (#[.bool v6, .int .u64 hi, .int .u64 lo, .int .i64 i] : Array Value).all (·.oneCell') = true := all_oneCell_toArray (by
  intro v hv
  simp only [List.mem_cons, List.not_mem_nil, or_false] at hv
  rcases hv with rfl | rfl | rfl | rfl <;> rfl)
theorem alloc_pfx (o : Oper) (h : o.op = .alloc 45) (ρ : Operand → Value) (w : World) : (execOp ρ o).run Tryd.prog w = .ok (.value (.pointer (some ⟨w.heap.size, 0, none⟩))) (w.alloc (.cells #[.bool false, .int .u64 0, .int .u64 0, .int .i64 0] 45)) := by
  obtain ⟨d, op, t, ps, af, g⟩ := o
  dsimp only at h
  subst h
  kernel_rfl
/-- A text's bytes, in a new row. -/
theorem bytes_any (s : List UInt8) (w : World) : ∃ w' c, (convert 9 38 (.string (str s))).run Tryd.prog w = .ok (.slice (some ⟨w.heap.size, 0, none⟩) s.length c) w' ∧ IsB w' w'.heap.size (some ⟨w.heap.size, 0, none⟩) s.length s ∧ Below w.heap.size w w' := by
  have h := Lib.run_convert_string_bytes (P := Tryd.prog) w 9 38 5 (str s) Tryd.underlying9 Tryd.underlying38 Tryd.underlying5
  rw [size_str] at h
  refine ⟨_, _, h, ⟨rfl, fun hn => ⟨_, 0, rfl, by rw [Lib.bytesWorld_size]; omega, fun j hj => ?_⟩⟩, ?_⟩
  · rw [Nat.zero_add, Lib.bytesWorld_cell w _ (str s) j (by rw [size_str]; exact hj), str_list]
    unfold u8v
    rw [List.getD_eq_getElem?_getD, List.getElem?_eq_getElem hj]
    rfl
  · exact ⟨rfl, rfl, rfl, by rw [Lib.bytesWorld_size]; omega, fun j hj => Lib.bytesWorld_at_old _ _ _ j hj⟩
/-- What is made of the parts of a text. -/
def pfxG (r : Option Adr) (c : Bool) (T : List UInt8) : Option (Adr × Nat) :=
  match r with
  | none => none
  | some a => if c = false ∨ T.length < 1 ∨ 3 < T.length then none else match tailF 0 T with
    | none => none
    | some n => if a.rightP n = true ∧ digL 10 n = T then some (a, n) else none
theorem pfxF_G (s : List UInt8) : pfxF s = pfxG (parseF (Lib.cut s [47]).1) (Lib.cut s [47]).2.2 (Lib.cut s [47]).2.1 := by
  unfold pfxF pfxG
  rfl
def goodG (a : Adr) (T : List UInt8) : Option Nat → Option (Adr × Nat)
  | none => none
  | some n => if a.rightP n = true ∧ digL 10 n = T then some (a, n) else none
theorem rightP_nat (a : Adr) (m : Nat) : rightP a (m : Int) = a.rightP m := by
  unfold rightP
  rw [decide_eq_true (by omega), Bool.true_and, Int.toNat_natCast]
theorem clamp128 (a : Adr) (m : Nat) (h : a.rightP m = true) : (min (max (m : Int) 0) 128).toNat = m := by
  have h1 := (rightP_w a m h).2.1
  have h2 := a.w_le
  omega
theorem pfxG_bad (r : Option Adr) (C : Bool) (T : List UInt8) (h : (!C || (errP r != 0) || decide ((T.length : Int) < 1) || decide ((3 : Int) < (T.length : Int))) = true) : pfxG r C T = none := by
  unfold pfxG
  cases r with
  | none => rfl
  | some a =>
    dsimp only
    rw [if_pos]
    simp only [Bool.or_eq_true, Bool.not_eq_true', bne_iff_ne, decide_eq_true_eq] at h
    rcases h with ((h | h) | h) | h
    · exact .inl h
    · exact absurd rfl h
    · exact .inr (.inl (by omega))
    · exact .inr (.inr (by omega))
theorem pfxG_good (r : Option Adr) (C : Bool) (T : List UInt8) (h : (!C || (errP r != 0) || decide ((T.length : Int) < 1) || decide ((3 : Int) < (T.length : Int))) = false) : ∃ a, r = some a ∧ pfxG r C T = goodG a T (tailF 0 T) ∧ 1 ≤ T.length ∧ T.length ≤ 3 := by
  simp only [Bool.or_eq_false_iff, Bool.not_eq_false', decide_eq_false_iff_not] at h
  obtain ⟨⟨⟨h1, h2⟩, h3⟩, h4⟩ := h
  cases r with
  | none => cases h2
  | some a =>
    refine ⟨a, rfl, ?_, by omega, by omega⟩
    unfold pfxG goodG
    dsimp only
    rw [if_neg (by
      rintro (h | h | h)
      · rw [h1] at h; cases h
      · omega
      · omega)]
set_option maxRecDepth 20000 in
set_option maxHeartbeats 8000000 in
theorem pParse_any (s : List UInt8) (hs : s.length ≤ 80) (w : World) (hm : MaxAt w) :
    Calls Tryd.prog 26 #[.string (str s)] w fun e w' => e = .returned (.tuple #[.agg (pArrO (pfxF s)), .int .i64 (if (pfxF s).isSome then 0 else 18)]) ∧ Below w.heap.size w w' := by
  rw [pfxF_G]
  obtain ⟨w1, hw1⟩ : ∃ w1, w.alloc (.cells #[.bool false, .int .u64 0, .int .u64 0, .int .i64 0] 45) = w1 := ⟨_, rfl⟩
  have hB : Below w.heap.size w w1 := hw1 ▸ (Below.refl _ _).alloc (Nat.le_refl _) _
  have hg : w1.heap[w.heap.size]? = some (.cells #[.bool false, .int .u64 0, .int .u64 0, .int .i64 0] 45 (0, 0)) := hw1 ▸ blk_new _ _ _
  have hm1 := hm.below hB
  have hcut := cut_any [47] s hs w1 hm1
  have hcl := cut_len s [47]
  obtain ⟨H, hH⟩ : ∃ x, (Lib.cut s [47]).1 = x := ⟨_, rfl⟩
  obtain ⟨T, hT⟩ : ∃ x, (Lib.cut s [47]).2.1 = x := ⟨_, rfl⟩
  obtain ⟨C, hC⟩ : ∃ x, (Lib.cut s [47]).2.2 = x := ⟨_, rfl⟩
  rw [hH, hT, hC] at hcut ⊢
  rw [hH, hT] at hcl
  have hP := Parse_any H (by omega)
  have hTl : T.length ≤ 80 := by omega
  have hps := fun a h => (parse_some H a h).2.1
  obtain ⟨PF, hPF⟩ : ∃ x, parseF H = x := ⟨_, rfl⟩
  rw [hPF] at hP hps ⊢
  obtain ⟨R, hR⟩ : ∃ x, pfxG PF C T = x := ⟨_, rfl⟩
  rw [hR]
  have hzT : (str T).size = T.length := size_str T
  clear hH hT hC hPF hcl hm
  obtain ⟨ar, har⟩ : ∃ a : Adr, adrP PF = a.arr := by
    cases PF with
    | none => exact ⟨⟨false, 0, 0⟩, rfl⟩
    | some a => exact ⟨a, rfl⟩
  obtain ⟨E, hE⟩ : ∃ x, errP PF = x := ⟨_, rfl⟩
  rw [har, hE] at hP
  replace hB := hide hB
  replace hg := hide hg
  replace hm1 := hide hm1
  replace hcut := hide hcut
  replace hP := hide hP
  replace hps := hide hps
  replace hR := hide hR
  replace har := hide har
  replace hE := hide hE
  go_enter Tryd.func26, Tryd.ntmps26
  go_wp2_with fail
  clear hw1
  refine hcut.out.mono ?_
  rintro e w2 ⟨rfl, hb2⟩
  replace hB := hide (hB.out.trans (hb2.mono hB.out.size))
  replace hg := hide (blk_on hb2 hg.out)
  replace hm1 := hide (hm1.out.below hb2)
  clear hb2
  clear hcut
  have hP2 := hP.out w2 hm1.out
  obtain ⟨av, ah, al⟩ := ar
  unfold Adr.arr at hP2
  clear hP
  replace hP2 := hide hP2
  go_upto_region 2 with fail
  apply wp_region_lit
  iterate 1 (refine wpList_plain rfl fun K hK => ?_; go_simp; refine hK _ _ ?_; clear hK K)
  refine wpList_plain rfl fun K hK => ?_
  go_simp
  refine (hP2.out).mono ?_
  rintro e w3 ⟨rfl, hb3⟩
  replace hB := hide (hB.out.trans (hb3.mono hB.out.size))
  replace hg := hide (blk_on hb3 hg.out)
  replace hm1 := hide (hm1.out.below hb3)
  clear hb3
  clear hP2
  go_simp
  refine hK _ _ ?_
  clear hK K
  iterate 3 (refine wpList_plain rfl fun K hK => ?_; go_simp; refine hK _ _ ?_; clear hK K)
  refine wpl_new rfl rfl 24 _ (alloc_adr _ rfl) 7 rfl (.tmp 21) rfl _ (fun _ => rfl) (fun _ => rfl) rfl (by kernel_rfl) (adr_one av (ah : Int) (al : Int)) ?_
  intro w4 hga hb4 hz4
  replace hB := hide (hB.out.trans (hb4.mono hB.out.size))
  replace hg := hide (blk_on hb4 hg.out)
  replace hm1 := hide (hm1.out.below hb4)
  clear hb4
  replace hga := hide hga
  iterate 1 (refine wpList_plain rfl fun K hK => ?_; go_simp; refine hK _ _ ?_; clear hK K)
  refine wpList_nil ?_
  go_simp
  obtain ⟨e0, he0⟩ : ∃ b, (E != 0) = b := ⟨_, rfl⟩
  obtain ⟨b1, hb1⟩ : ∃ b, decide ((T.length : Int) < 1) = b := ⟨_, rfl⟩
  obtain ⟨b2, hb2⟩ : ∃ b, decide ((3 : Int) < (T.length : Int)) = b := ⟨_, rfl⟩
  obtain ⟨BAD, hBAD⟩ : ∃ b, (!C || e0 || b1 || b2) = b := ⟨_, rfl⟩
  replace hBAD := hide hBAD
  go_upto_region 3 with fail
  go_cut [38] (fun bv wx => bv = .bool BAD ∧ w4 = wx)
  case first =>
    have hbad := hBAD.out
    clear hBAD
    replace hbad := hide hbad
    cases C
    · go_wp2_with fail
      go_meet
      exact ⟨by rw [← hbad.out]; rfl, rfl⟩
    cases e0
    · cases b1
      · go_wp2_with fail
        go_meet
        exact ⟨by rw [← hbad.out]; rfl, rfl⟩
      · go_wp2_with fail
        go_meet
        exact ⟨by rw [← hbad.out]; rfl, rfl⟩
    · go_wp2_with fail
      go_meet
      exact ⟨by rw [← hbad.out]; rfl, rfl⟩
  case rest =>
    obtain ⟨rfl, rfl⟩ := hcut
    cases BAD
    · obtain ⟨a, hPa, hRg, ht1, ht3⟩ : ∃ a, PF = some a ∧ R = goodG a T (tailF 0 T) ∧ 1 ≤ T.length ∧ T.length ≤ 3 := by
        have h := pfxG_good PF C T (by rw [hE.out, he0, hb1, hb2]; exact hBAD.out)
        rw [hR.out] at h
        exact h
      have hoa := hps.out a hPa
      have e1 := har.out
      rw [hPa] at e1
      obtain rfl : a = ⟨av, ah, al⟩ := by
        obtain ⟨v, h, l⟩ := a
        have e2 : (#[.bool v, .int .u64 (h : Int), .int .u64 (l : Int)] : Array Value) = #[.bool av, .int .u64 (ah : Int), .int .u64 (al : Int)] := e1
        simp at e2
        obtain ⟨rfl, h1, h2⟩ := e2
        congr 1 <;> omega
      clear hBAD hE he0 hb1 hb2 e1 hPa hR har hps
      replace hRg := hide hRg
      replace hoa := hide hoa
      go_upto_region 5 with fail
      apply wp_region_lit
      refine wpl_ld rfl 24 (.tmp 7) rfl w3.heap.size rfl _ _ hga.out Tryd.underlying24 rfl (by kernel_rfl) ?_
      iterate 1 (refine wpList_plain rfl fun K hK => ?_; go_simp; refine hK _ _ ?_; clear hK K)
      refine wpl_new rfl rfl 45 _ (alloc_pfx _ rfl) 9 rfl (.tmp 41) rfl _ (fun _ => rfl) (fun _ => rfl) rfl (by kernel_rfl) (p_one av (ah : Int) (al : Int) 0) ?_
      intro w5 hgp hb5 hz5
      have hlS := hB.out.size
      have hlS2 : w.heap.size < w4.heap.size := World.block_lt_of_cell? w4 _ (blk_cell hg.out 0)
      clear hga
      replace hB := hide (hB.out.trans (hb5.mono hB.out.size))
      replace hg := hide (blk_on hb5 hg.out)
      replace hm1 := hide (hm1.out.below hb5)
      replace hgp := hide hgp
      refine wpList_nil ?_
      go_simp
      obtain ⟨w6, c6, hcv, hrow, hb6⟩ := bytes_any T w5
      go_upto_region 6 with fail
      apply wp_region_lit
      iterate 2 (refine wpList_plain rfl fun K hK => ?_; go_simp; refine hK _ _ ?_; clear hK K)
      replace hB := hide (hB.out.trans (hb6.mono hB.out.size))
      replace hg := hide (blk_on hb6 hg.out)
      replace hm1 := hide (hm1.out.below hb6)
      replace hgp := hide (blk_on hb6 hgp.out)
      clear hb6
      clear hcv
      replace hrow := hide hrow
      iterate 2 (refine wpList_plain rfl fun K hK => ?_; go_simp; refine hK _ _ ?_; clear hK K)
      refine wpList_nil ?_
      go_simp
      go_upto_block 2 with fail
      have hzS : w.heap.size ≤ w4.heap.size := hlS
      obtain ⟨gp, hgpe⟩ : ∃ x, w4.heap.size = x := ⟨_, rfl⟩
      obtain ⟨rb, hrbe⟩ : ∃ x, w5.heap.size = x := ⟨_, rfl⟩
      have hgpz : w4.heap.size < w6.heap.size := World.block_lt_of_cell? w6 _ (blk_cell hgp.out 0)
      have hrbz : w5.heap.size < w6.heap.size := by
        obtain ⟨b, off, e, hb, -⟩ := hrow.out.ptr (by omega)
        cases e
        exact hb
      rw [hgpe] at hgp hgpz hz5 hzS hlS2 ⊢
      rw [hrbe] at hrow hz5 hrbz ⊢
      clear hm1
      replace hgpe := hide hgpe
      replace hrbe := hide hrbe
      obtain ⟨F, hF⟩ : ∃ F, tailF 0 T = F := ⟨_, rfl⟩
      have hRg' := hRg.out
      rw [hF] at hRg'
      clear hRg
      replace hRg' := hide hRg'
      replace hF := hide hF
      go_loopw [11, 45] (fun _ kv wr => ∃ k m : Nat, k ≤ T.length ∧ kv = .int .i64 (k : Int) ∧ m < 10 ^ k ∧ tailF m (T.drop k) = F ∧ w6.grownBy wr (some gp) ∧ wr.heap[gp]? = some (.cells #[.bool av, .int .u64 (ah : Int), .int .u64 (al : Int), .int .i64 (m : Int)] 45 (0, 0))) (fun _ kv _ => T.length - (intOf kv).toNat)
      case atStart => exact ⟨0, 0, by omega, rfl, by decide, hF.out, grown_refl _ _, hgp.out⟩
      case round =>
        obtain ⟨k, m, hk, rfl, hml, hf, hgr, hgm⟩ := hrel
        have hgrz := hgr.size
        have hgS := grown_other hgr (by omega) (by omega) hg.out
        have hBS : Below w.heap.size w wr := hB.out.trans (below_grown hgr (by have := hB.out.size; omega) (by omega))
        have hm999 : m < 1000 := Nat.lt_of_lt_of_le hml (Nat.le_trans (Nat.pow_le_pow_right (by omega) (show k ≤ 3 by omega)) (by decide))
        replace hf := hide hf
        replace hgr := hide hgr
        replace hgm := hide hgm
        replace hgS := hide hgS
        replace hBS := hide hBS
        replace hml := hide hml
        by_cases hkT : k < T.length
        · have i1 : (k : Int) < (T.length : Int) := by omega
          have i2 : (0 : Int) ≤ (k : Int) := by omega
          obtain ⟨v, hv, hvl, hcv⟩ := hrow.out.byteAt hkT
          have hcv := (World.cell?_of_block (hgr.out.block rb (by omega) (by intro e; cases e; omega))).trans hcv
          rw [Nat.zero_add] at hcv
          have hdr : T.drop k = T.getD k 0 :: T.drop (k + 1) := by
            rw [List.getD_eq_getElem?_getD, List.getElem?_eq_getElem hkT]
            exact List.drop_eq_getElem_cons hkT
          have hf1 := hf.out
          rw [hdr, tailF, hv] at hf1
          clear hdr
          replace hf1 := hide hf1
          replace hv := hide hv
          by_cases hd : 48 ≤ v ∧ v ≤ 57
          · have t1 : decide ((v : Int) < 48) = false := by rw [decide_eq_false_iff_not]; omega
            have t2 : decide ((57 : Int) < (v : Int)) = false := by rw [decide_eq_false_iff_not]; omega
            have n1 : ¬ (v : Int) < 48 := by omega
            have n2 : ¬ (57 : Int) < (v : Int) := by omega
            have w1' : IntKind.i64.wrap (10 * (m : Int)) = ((10 * m : Nat) : Int) := by rw [wraps62 _ (by omega) (by omega)]; omega
            obtain ⟨d, hdd⟩ : ∃ d, v - 48 = d := ⟨_, rfl⟩
            have w2' : IntKind.u8.wrap ((v : Int) - 48) = (d : Int) := by rw [IntKind.wrap_u8]; omega
            have w3' : IntKind.i64.wrap (d : Int) = (d : Int) := wraps62 _ (by omega) (by omega)
            obtain ⟨m10, hm10⟩ : ∃ x, 10 * m = x := ⟨_, rfl⟩
            rw [hm10] at w1'
            obtain ⟨m2, hm2⟩ : ∃ x, m10 + d = x := ⟨_, rfl⟩
            have w4' : IntKind.i64.wrap ((m10 : Int) + (d : Int)) = (m2 : Int) := by rw [wraps62 _ (by omega) (by omega)]; omega
            have hf2 := hf1.out
            rw [if_pos hd, hdd, hm10, hm2] at hf2
            obtain ⟨w9, e9, hg9, g9⟩ := store_cell hgm.out 3 (.int .i64 (m2 : Int))
            have hg9 : w9.heap[gp]? = some (.cells #[.bool av, .int .u64 (ah : Int), .int .u64 (al : Int), .int .i64 (m2 : Int)] 45 (0, 0)) := hg9
            have c9 := blk_cell hgm.out
            have f9 := blk_free hgm.out 3
            have hgr9 := grown_trans' _ _ _ hgr.out g9
            have hml2 : m2 < 10 ^ (k + 1) := by have := hml.out; rw [Nat.pow_succ]; omega
            clear g9
            replace hf2 := hide hf2
            replace hg9 := hide hg9
            replace hgr9 := hide hgr9
            replace hd := hide hd
            replace hdd := hide hdd
            replace hm10 := hide hm10
            replace hm2 := hide hm2
            replace hml2 := hide hml2
            go_wp2_with fail
            refine ⟨⟨k + 1, m2, by omega, by first | rfl | go_num, hml2.out, hf2.out, hgr9.out, hg9.out⟩, by simp only [intOf]; omega⟩
          · have hR0 : R = none := by
              have hf2 := hf1.out
              rw [if_neg hd] at hf2
              rw [hRg'.out, ← hf2]; rfl
            subst hR0
            clear hRg' hF
            have tt : decide ((v : Int) < 48) = true ∨ (decide ((v : Int) < 48) = false ∧ decide ((57 : Int) < (v : Int)) = true) := by
              rcases Nat.lt_or_ge v 48 with h | h
              · exact .inl (by rw [decide_eq_true_eq]; omega)
              · exact .inr ⟨by rw [decide_eq_false_iff_not]; omega, by rw [decide_eq_true_eq]; omega⟩
            replace hd := hide hd
            rcases tt with t1 | ⟨t1, t2⟩
            · have n1 : (v : Int) < 48 := of_decide_eq_true t1
              go_upto_region 10 with fail
              apply wp_region_lit
              iterate 1 (refine wpList_plain rfl fun K hK => ?_; go_simp; refine hK _ _ ?_; clear hK K)
              refine wpl_st rfl 45 (.tmp 2) (.tmp 55) rfl (w.heap.size) 0 rfl (#[.bool false, .int .u64 0, .int .u64 0, .int .i64 0]) rfl hgS.out (by simp) (by kernel_rfl) (p_one _ _ _ _) fun w9 hg9 g9 => ?_
              rw [putA_whole _ _ (by rfl)] at hg9
              have hb9 : Below (w.heap.size) w w9 := (hBS.out).trans (below_grown g9 (by have := (hBS.out).size; omega) (Nat.le_refl _))
              have hld : (loadVar 45 ⟨w.heap.size, 0, none⟩).run Tryd.prog w9 = .ok (.agg (#[.bool false, .int .u64 0, .int .u64 0, .int .i64 0])) w9 := by
                simpa using run_loadVar_mid w9 (w.heap.size) 0 45 (#[.bool false, .int .u64 0, .int .u64 0, .int .i64 0]).toList _ (blk_range hg9) Tryd.underlying45 rfl (by kernel_rfl)
              clear hg9 g9
              replace hld := hide hld
              replace hb9 := hide hb9
              iterate 1 (refine wpList_plain rfl fun K hK => ?_; go_simp; refine hK _ _ ?_; clear hK K)
              refine wpList_nil ?_
              go_simp
              go_wp2_with fail
              exact bodyPost_ret (v := .tuple #[.agg #[.bool false, .int .u64 0, .int .u64 0, .int .i64 0], .int .i64 18]) (by simp [results, Tryd.results26, asAddr, hld.out, Result.andThen]) rfl ⟨rfl, hb9.out⟩
            · have n1 : ¬ (v : Int) < 48 := of_decide_eq_false t1
              have n2 : (57 : Int) < (v : Int) := of_decide_eq_true t2
              go_upto_region 10 with fail
              apply wp_region_lit
              iterate 1 (refine wpList_plain rfl fun K hK => ?_; go_simp; refine hK _ _ ?_; clear hK K)
              refine wpl_st rfl 45 (.tmp 2) (.tmp 55) rfl (w.heap.size) 0 rfl (#[.bool false, .int .u64 0, .int .u64 0, .int .i64 0]) rfl hgS.out (by simp) (by kernel_rfl) (p_one _ _ _ _) fun w9 hg9 g9 => ?_
              rw [putA_whole _ _ (by rfl)] at hg9
              have hb9 : Below (w.heap.size) w w9 := (hBS.out).trans (below_grown g9 (by have := (hBS.out).size; omega) (Nat.le_refl _))
              have hld : (loadVar 45 ⟨w.heap.size, 0, none⟩).run Tryd.prog w9 = .ok (.agg (#[.bool false, .int .u64 0, .int .u64 0, .int .i64 0])) w9 := by
                simpa using run_loadVar_mid w9 (w.heap.size) 0 45 (#[.bool false, .int .u64 0, .int .u64 0, .int .i64 0]).toList _ (blk_range hg9) Tryd.underlying45 rfl (by kernel_rfl)
              clear hg9 g9
              replace hld := hide hld
              replace hb9 := hide hb9
              iterate 1 (refine wpList_plain rfl fun K hK => ?_; go_simp; refine hK _ _ ?_; clear hK K)
              refine wpList_nil ?_
              go_simp
              go_wp2_with fail
              exact bodyPost_ret (v := .tuple #[.agg #[.bool false, .int .u64 0, .int .u64 0, .int .i64 0], .int .i64 18]) (by simp [results, Tryd.results26, asAddr, hld.out, Result.andThen]) rfl ⟨rfl, hb9.out⟩
        · have i1 : ((k : Int) < (T.length : Int)) = False := by rw [eq_iff_iff, iff_false]; omega
          have hdn : T.drop k = [] := List.drop_of_length_le (by omega)
          have hf1 := hf.out
          rw [hdn, tailF] at hf1
          have hR1 : R = if (Adr.mk av ah al).rightP m = true ∧ digL 10 m = T then some (⟨av, ah, al⟩, m) else none := by rw [hRg'.out, ← hf1]; rfl
          clear hRg' hF hdn hf1 hf
          have hRi := pRight_any ⟨av, ah, al⟩ hoa.out (m : Int) wr
          have hNu := pnum_any (m : Int)
          have hcl := clamp128 ⟨av, ah, al⟩ m
          rw [rightP_nat] at hRi
          obtain ⟨RB, hRB⟩ : ∃ x, Adr.rightP ⟨av, ah, al⟩ m = x := ⟨_, rfl⟩
          rw [hRB] at hR1 hRi hcl
          unfold pArr at hRi
          dsimp only at hRi
          have hcg := blk_cell hgm.out
          replace hRi := hide hRi
          replace hNu := hide hNu
          replace hcl := hide hcl
          replace hR1 := hide hR1
          replace hRB := hide hRB
          go_wp2_with fail
          refine hRi.out.mono ?_
          rintro e w7 ⟨rfl, hb7⟩
          have hgm7 := blk_below hb7 (by omega) hgm.out
          have hgS7 := blk_below hb7 (by omega) hgS.out
          have hBS7 := hBS.out.trans (hb7.mono hBS.out.size)
          have hz7 := hb7.size
          clear hb7 hcg hgm hgS hBS hRi
          cases RB
          · obtain rfl : R = none := by rw [hR1.out, if_neg (by simp)]
            replace hgm7 := hide hgm7
            replace hgS7 := hide hgS7
            replace hBS7 := hide hBS7
            go_upto_region 14 with fail
            apply wp_region_lit
            iterate 1 (refine wpList_plain rfl fun K hK => ?_; go_simp; refine hK _ _ ?_; clear hK K)
            refine wpl_st rfl 45 (.tmp 2) (.tmp 75) rfl (w.heap.size) 0 rfl (#[.bool false, .int .u64 0, .int .u64 0, .int .i64 0]) rfl hgS7.out (by simp) (by kernel_rfl) (p_one _ _ _ _) fun w9 hg9 g9 => ?_
            rw [putA_whole _ _ (by rfl)] at hg9
            have hb9 : Below (w.heap.size) w w9 := (hBS7.out).trans (below_grown g9 (by have := (hBS7.out).size; omega) (Nat.le_refl _))
            have hld : (loadVar 45 ⟨w.heap.size, 0, none⟩).run Tryd.prog w9 = .ok (.agg (#[.bool false, .int .u64 0, .int .u64 0, .int .i64 0])) w9 := by
              simpa using run_loadVar_mid w9 (w.heap.size) 0 45 (#[.bool false, .int .u64 0, .int .u64 0, .int .i64 0]).toList _ (blk_range hg9) Tryd.underlying45 rfl (by kernel_rfl)
            clear hg9 g9
            replace hld := hide hld
            replace hb9 := hide hb9
            iterate 1 (refine wpList_plain rfl fun K hK => ?_; go_simp; refine hK _ _ ?_; clear hK K)
            refine wpList_nil ?_
            go_simp
            go_wp2_with fail
            exact bodyPost_ret (v := .tuple #[.agg #[.bool false, .int .u64 0, .int .u64 0, .int .i64 0], .int .i64 18]) (by simp [results, Tryd.results26, asAddr, hld.out, Result.andThen]) rfl ⟨rfl, hb9.out⟩
          · have hR2 := hR1.out
            have hN2 := hNu.out w7
            rw [hcl.out rfl] at hN2
            obtain ⟨D, hD⟩ : ∃ x, digL 10 m = x := ⟨_, rfl⟩
            rw [hD] at hN2 hR2
            have hcg := blk_cell hgm7
            clear hR1 hNu hcl
            replace hgm7 := hide hgm7
            replace hgS7 := hide hgS7
            replace hBS7 := hide hBS7
            replace hN2 := hide hN2
            replace hR2 := hide hR2
            replace hD := hide hD
            by_cases hDT : D = T
            · obtain rfl : R = some (⟨av, ah, al⟩, m) := by rw [hR2.out, if_pos ⟨rfl, hDT⟩]
              rw [hDT] at hN2
              clear hR2 hD
              replace hDT := hide hDT
              go_wp2_with fail
              refine hN2.out.mono ?_
              rintro e w8 ⟨rfl, hb8⟩
              have hgm8 := blk_below hb8 (by omega) hgm7.out
              have hgS8 := blk_below hb8 (by omega) hgS7.out
              have hBS8 := hBS7.out.trans (hb8.mono hBS7.out.size)
              clear hb8 hcg
              replace hgm8 := hide hgm8
              replace hgS8 := hide hgS8
              replace hBS8 := hide hBS8
              go_upto_region 15 with fail
              apply wp_region_lit
              refine wpl_ld rfl 45 (.tmp 9) rfl gp rfl _ _ hgm8.out Tryd.underlying45 rfl (by kernel_rfl) ?_
              refine wpl_st rfl 45 (.tmp 2) (.tmp 76) rfl (w.heap.size) 0 rfl (#[.bool av, .int .u64 (ah : Int), .int .u64 (al : Int), .int .i64 (m : Int)]) rfl hgS8.out (by simp) (by kernel_rfl) (p_one _ _ _ _) fun w9 hg9 g9 => ?_
              rw [putA_whole _ _ (by rfl)] at hg9
              have hb9 : Below (w.heap.size) w w9 := (hBS8.out).trans (below_grown g9 (by have := (hBS8.out).size; omega) (Nat.le_refl _))
              have hld : (loadVar 45 ⟨w.heap.size, 0, none⟩).run Tryd.prog w9 = .ok (.agg (#[.bool av, .int .u64 (ah : Int), .int .u64 (al : Int), .int .i64 (m : Int)])) w9 := by
                simpa using run_loadVar_mid w9 (w.heap.size) 0 45 (#[.bool av, .int .u64 (ah : Int), .int .u64 (al : Int), .int .i64 (m : Int)]).toList _ (blk_range hg9) Tryd.underlying45 rfl (by kernel_rfl)
              clear hg9 g9
              replace hld := hide hld
              replace hb9 := hide hb9
              iterate 1 (refine wpList_plain rfl fun K hK => ?_; go_simp; refine hK _ _ ?_; clear hK K)
              refine wpList_nil ?_
              go_simp
              go_wp2_with fail
              exact bodyPost_ret (v := .tuple #[.agg #[.bool av, .int .u64 (ah : Int), .int .u64 (al : Int), .int .i64 (m : Int)], .int .i64 0]) (by simp [results, Tryd.results26, asAddr, hld.out, Result.andThen]) rfl ⟨rfl, hb9.out⟩
            · obtain rfl : R = none := by rw [hR2.out, if_neg (fun h => hDT h.2)]
              have tq : ((str D).toList == (str T).toList) = false := by rw [str_toList, str_toList]; simpa using hDT
              clear hR2 hD
              replace hDT := hide hDT
              go_wp2_with fail
              refine hN2.out.mono ?_
              rintro e w8 ⟨rfl, hb8⟩
              have hgS8 := blk_below hb8 (by omega) hgS7.out
              have hBS8 := hBS7.out.trans (hb8.mono hBS7.out.size)
              clear hb8 hcg
              replace hgS8 := hide hgS8
              replace hBS8 := hide hBS8
              go_upto_region 14 with fail
              apply wp_region_lit
              iterate 1 (refine wpList_plain rfl fun K hK => ?_; go_simp; refine hK _ _ ?_; clear hK K)
              refine wpl_st rfl 45 (.tmp 2) (.tmp 75) rfl (w.heap.size) 0 rfl (#[.bool false, .int .u64 0, .int .u64 0, .int .i64 0]) rfl hgS8.out (by simp) (by kernel_rfl) (p_one _ _ _ _) fun w9 hg9 g9 => ?_
              rw [putA_whole _ _ (by rfl)] at hg9
              have hb9 : Below (w.heap.size) w w9 := (hBS8.out).trans (below_grown g9 (by have := (hBS8.out).size; omega) (Nat.le_refl _))
              have hld : (loadVar 45 ⟨w.heap.size, 0, none⟩).run Tryd.prog w9 = .ok (.agg (#[.bool false, .int .u64 0, .int .u64 0, .int .i64 0])) w9 := by
                simpa using run_loadVar_mid w9 (w.heap.size) 0 45 (#[.bool false, .int .u64 0, .int .u64 0, .int .i64 0]).toList _ (blk_range hg9) Tryd.underlying45 rfl (by kernel_rfl)
              clear hg9 g9
              replace hld := hide hld
              replace hb9 := hide hb9
              iterate 1 (refine wpList_plain rfl fun K hK => ?_; go_simp; refine hK _ _ ?_; clear hK K)
              refine wpList_nil ?_
              go_simp
              go_wp2_with fail
              exact bodyPost_ret (v := .tuple #[.agg #[.bool false, .int .u64 0, .int .u64 0, .int .i64 0], .int .i64 18]) (by simp [results, Tryd.results26, asAddr, hld.out, Result.andThen]) rfl ⟨rfl, hb9.out⟩
    · have hRn : R = none := by
        have h := pfxG_bad PF C T (by rw [hE.out, he0, hb1, hb2]; exact hBAD.out)
        rw [hR.out] at h
        exact h
      subst hRn
      clear hBAD hR hE he0 hb1 hb2
      go_upto_region 4 with fail
      apply wp_region_lit
      iterate 1 (refine wpList_plain rfl fun K hK => ?_; go_simp; refine hK _ _ ?_; clear hK K)
      refine wpl_st rfl 45 (.tmp 2) (.tmp 39) rfl (w.heap.size) 0 rfl (#[.bool false, .int .u64 0, .int .u64 0, .int .i64 0]) rfl hg.out (by simp) (by kernel_rfl) (p_one _ _ _ _) fun w9 hg9 g9 => ?_
      rw [putA_whole _ _ (by rfl)] at hg9
      have hb9 : Below (w.heap.size) w w9 := (hB.out).trans (below_grown g9 (by have := (hB.out).size; omega) (Nat.le_refl _))
      have hld : (loadVar 45 ⟨w.heap.size, 0, none⟩).run Tryd.prog w9 = .ok (.agg (#[.bool false, .int .u64 0, .int .u64 0, .int .i64 0])) w9 := by
        simpa using run_loadVar_mid w9 (w.heap.size) 0 45 (#[.bool false, .int .u64 0, .int .u64 0, .int .i64 0]).toList _ (blk_range hg9) Tryd.underlying45 rfl (by kernel_rfl)
      clear hg9 g9
      replace hld := hide hld
      replace hb9 := hide hb9
      iterate 1 (refine wpList_plain rfl fun K hK => ?_; go_simp; refine hK _ _ ?_; clear hK K)
      refine wpList_nil ?_
      go_simp
      go_wp2_with fail
      exact bodyPost_ret (v := .tuple #[.agg #[.bool false, .int .u64 0, .int .u64 0, .int .i64 0], .int .i64 18]) (by simp [results, Tryd.results26, asAddr, hld.out, Result.andThen]) rfl ⟨rfl, hb9.out⟩
end Addr05
end Go.Proofs.YtccmbnaakdffaaaDoor
/- pfx: the law's awake. Condition: the cell of bytealg.MaxLen. -/
namespace Go.Proofs.YtccmbnaakdffaaaDoor
open Go.RowKit Go.ChangeShapes Go.WideShapes Go.ChangeAt Go.Deep
namespace Addr05
theorem pparse1 (w : World) (hm : MaxAt w) : Calls Tryd.prog 26 #[.string ⟨#[49, 48, 46, 48, 46, 48, 46, 48, 47, 56]⟩] w fun e w' => e = .returned (.tuple #[.agg #[.bool false, .int .u64 0, .int .u64 167772160, .int .i64 8], .int .i64 0]) ∧ Below w.heap.size w w' := by
  have h := pParse_any [49, 48, 46, 48, 46, 48, 46, 48, 47, 56] (by decide) w hm
  rw [show pfxF [49, 48, 46, 48, 46, 48, 46, 48, 47, 56] = some (⟨false, 0, 167772160⟩, 8) by kernel_rfl] at h
  exact h
theorem pparse2 (w : World) (hm : MaxAt w) : Calls Tryd.prog 26 #[.string ⟨#[49, 48, 46, 48, 46, 48, 46, 49, 47, 56]⟩] w fun e w' => e = .returned (.tuple #[.agg #[.bool false, .int .u64 0, .int .u64 0, .int .i64 0], .int .i64 18]) ∧ Below w.heap.size w w' := by
  have h := pParse_any [49, 48, 46, 48, 46, 48, 46, 49, 47, 56] (by decide) w hm
  rw [show pfxF [49, 48, 46, 48, 46, 48, 46, 49, 47, 56] = none by kernel_rfl] at h
  exact h
set_option maxRecDepth 20000 in
set_option maxHeartbeats 8000000 in
theorem pawake_any (w : World) (hm : MaxAt w) : Calls Tryd.prog 29 #[] w fun e w' => e = .returned (.bool true) ∧ Below w.heap.size w w' := by
  have h1 := pparse1 w hm
  have h2 := pparse2
  replace h1 := hide h1
  replace h2 := hide h2
  replace hm := hide hm
  go_enter Tryd.func29, Tryd.ntmps29
  go_upto_region 1 with fail
  apply wp_region_lit
  refine wpList_plain rfl fun K hK => ?_
  go_simp
  refine (h1.out).mono ?_
  rintro e w1 ⟨rfl, hb1⟩
  have hm1 := hm.out.below hb1
  replace hb1 := hide hb1
  replace hm1 := hide hm1
  go_simp
  refine hK _ _ ?_
  clear hK K
  iterate 3 (refine wpList_plain rfl fun K hK => ?_; go_simp; refine hK _ _ ?_; clear hK K)
  refine wpl_new rfl rfl 45 _ (alloc_pfx _ rfl) 1 rfl (.tmp 7) rfl _ (fun _ => rfl) (fun _ => rfl) rfl (by kernel_rfl) (p_one false 0 167772160 8) ?_
  intro w2 hg2 hb2 hz2
  have hB2 := hb1.out.trans (hb2.mono hb1.out.size)
  have hm2 := hm1.out.below hb2
  clear hb1 hb2 hm1
  replace hg2 := hide hg2
  replace hB2 := hide hB2
  replace hm2 := hide hm2
  iterate 1 (refine wpList_plain rfl fun K hK => ?_; go_simp; refine hK _ _ ?_; clear hK K)
  refine wpList_nil ?_
  go_simp
  go_upto_region 2 with fail
  apply wp_region_lit
  refine wpList_plain rfl fun K hK => ?_
  go_simp
  refine (h2.out w2 hm2.out).mono ?_
  rintro e w3 ⟨rfl, hb3⟩
  have hg3 := blk_below hb3 hz2 hg2.out
  have hB3 := hB2.out.trans (hb3.mono hB2.out.size)
  have hz3 := hb3.size
  clear hb3 hg2 hB2 hm2 h1 h2
  replace hg3 := hide hg3
  replace hB3 := hide hB3
  go_simp
  refine hK _ _ ?_
  clear hK K
  iterate 3 (refine wpList_plain rfl fun K hK => ?_; go_simp; refine hK _ _ ?_; clear hK K)
  refine wpl_new rfl rfl 45 _ (alloc_pfx _ rfl) 3 rfl (.tmp 11) rfl _ (fun _ => rfl) (fun _ => rfl) rfl (by kernel_rfl) (p_one false 0 0 0) ?_
  intro w4 hg4 hb4 hz4
  have hg5 := blk_below hb4 (by omega) hg3.out
  have hB4 := hB3.out.trans (hb4.mono hB3.out.size)
  have hz5 := hb4.size
  clear hb4 hB3 hg3 hg4
  replace hB4 := hide hB4
  iterate 1 (refine wpList_plain rfl fun K hK => ?_; go_simp; refine hK _ _ ?_; clear hK K)
  refine wpList_nil ?_
  go_simp
  have hcl := fun l : Later w4 => blk_cell (blk_below l.hb (by omega) hg5)
  have q := fun l : Later w4 => V4_any 167772160 (by omega) l.w
  replace q := hide q
  replace hg5 := hide hg5
  go_upto_region 3 with fail
  refine wp_region_L (by as_aux_lemma => kernel_rfl) ?_
  refine wpE_seg 0 13 (fuel := 0) (by as_aux_lemma => kernel_rfl) (fun d _ _ _ _ h => by cases d <;> exact h) (by as_aux_lemma => kernel_rfl) (by as_aux_lemma => kernel_rfl) ?_
  simp only [List.drop_zero, List.take_succ_cons, List.take_zero]
  iterate 1 (refine wpQE_step (fun K hK => ?_); go_simp; refine hK _ ?_; clear hK K)
  (refine wpQE_step (fun K hK => ?_); go_simp; apply Exists.intro; refine ⟨fun l => ?_, hK _ ?_⟩; (go_at_call 19; refine (q.out l).mono ?_; rintro e w' ⟨rfl, hb⟩; exact ⟨rfl, hb⟩); clear hK K)
  iterate 11 (refine wpQE_step (fun K hK => ?_); go_simp; refine hK _ ?_; clear hK K)
  refine wpQE_nil ?_
  refine wpE_done (by as_aux_lemma => kernel_rfl) (fun w6 hb6 => ?_) 0
  have hB6 := hB4.out.trans (hb6.mono hB4.out.size)
  clear hb6 hcl
  replace hB6 := hide hB6
  go_wp2_with fail
  go_ret
  exact ⟨rfl, hB6.out⟩
end Addr05
end Go.Proofs.YtccmbnaakdffaaaDoor
/- pfx: the law's right, and has. Conditions: numbers of 64 bits. -/
namespace Go.Proofs.YtccmbnaakdffaaaDoor
open Go.RowKit Go.ChangeShapes Go.WideShapes Go.ChangeAt Go.Deep
namespace Addr05
theorem ints_ptr {w : World} {B n : Nat} {A : Option Addr} {xs : List Int} (h : IsV w B 1 A n (xs.map (Value.int .i64))) (hn : 0 < n) : ∃ b off, A = some ⟨b, off, none⟩ ∧ b < B ∧ ∀ j x, xs[j]? = some x → w.cell? ⟨b, off + j, none⟩ = some (.int .i64 x) := by
  have hl : xs.length = n := by simpa using h.1
  obtain ⟨b, off, e, hb, hc⟩ := h.2 (by omega)
  refine ⟨b, off, e, hb, fun j x hj => ?_⟩
  obtain ⟨hj', rfl⟩ := List.getElem?_eq_some_iff.1 hj
  have := hc j (by rw [List.length_map]; exact hj')
  rw [this]
  simp
theorem rightP_bits (a : Adr) (ho : a.ok) (hr : a.right) (k : Nat) (h : k ≤ a.w) : a.rightP k = true ↔ ∀ j, k ≤ j → j < a.w → a.bit j = 0 := by
  unfold Adr.rightP
  rw [decide_eq_true_eq, ← a.mask_eq ho hr k h]
  exact ⟨fun h => h.2.2, fun h' => ⟨hr, h, h'⟩⟩
set_option maxRecDepth 20000 in
set_option maxHeartbeats 8000000 in
theorem pright_any (a : Adr) (ho : a.ok) (i : Int) (w : World) :
    Calls Tryd.prog 25 #[.agg (pArr a i)] w fun e w' => e = .returned (.bool (rightP a i)) ∧ Below w.heap.size w w' := by
  have hn1 := right_no1 a i
  have hn2 := right_no2 a i
  have hn3 := right_no3 a i
  have hw128 := a.w_le
  have hw32 : 0 < a.w := by unfold Adr.w; split <;> omega
  have hR := fun w => Right_any a.v6 a.hi a.lo w
  have hri := rightB_iff a
  have hBi := bits_any a ho
  have hbl := a.bits_length
  have hbg := a.bits_get
  have hrb := fun hr k h => rightP_bits a ho hr k h
  have hnat := rightP_nat a
  obtain ⟨RB, hRB⟩ : ∃ x, rightB a.v6 a.hi a.lo = x := ⟨_, rfl⟩
  rw [hRB] at hn1 hR hri
  obtain ⟨BS, hBS⟩ : ∃ x, a.bits = x := ⟨_, rfl⟩
  rw [hBS] at hBi hbl hbg
  obtain ⟨W, hW⟩ : ∃ W, a.w = W := ⟨_, rfl⟩
  rw [hW] at hn3 hbl hbg hrb hw128 hw32
  obtain ⟨RP, hRP⟩ : ∃ x, rightP a i = x := ⟨_, rfl⟩
  rw [hRP] at hn1 hn2 hn3 ⊢
  unfold pArr
  obtain ⟨f, hf⟩ : ∃ f, a.bit = f := ⟨_, rfl⟩
  rw [hf] at hbg hrb
  have hrp : ∀ k : Nat, RB = true → i = (k : Int) → k ≤ W → (RP = true ↔ ∀ j, k ≤ j → j < W → f j = 0) := by
    intro k h1 h2 h3
    rw [← hrb (hri.1 h1) k h3, ← hnat, ← h2, hRP]
  clear hrb hri hnat hW hRP hRB hf hBS ho
  obtain ⟨v, hi, lo⟩ := a
  dsimp only at hR hBi ⊢
  obtain ⟨w1, hw1⟩ : ∃ w1, w.alloc (.cells #[.bool v, .int .u64 (hi : Int), .int .u64 (lo : Int), .int .i64 i] 45) = w1 := ⟨_, rfl⟩
  have hB : Below w.heap.size w w1 := hw1 ▸ (Below.refl _ _).alloc (Nat.le_refl _) _
  have hg : w1.heap[w.heap.size]? = some (.cells #[.bool v, .int .u64 (hi : Int), .int .u64 (lo : Int), .int .i64 i] 45 (0, 0)) := hw1 ▸ blk_new _ _ _
  replace hB := hide hB
  replace hg := hide hg
  have hcg := blk_cell hg.out
  replace hR := hide hR
  replace hBi := hide hBi
  replace hbg := hide hbg
  replace hrp := hide hrp
  replace hn1 := hide hn1
  replace hn2 := hide hn2
  replace hn3 := hide hn3
  go_enter Tryd.func25, Tryd.ntmps25
  go_wp2_with fail
  clear hw1
  refine (hBi.out w1).mono ?_
  rintro e w2 ⟨vb, rfl, hown, hb2⟩
  replace hB := hide (hB.out.trans (hb2.mono hB.out.size))
  replace hg := hide (blk_on hb2 hg.out)
  clear hb2
  obtain ⟨A, c, rfl, hc, hcm, hv⟩ := hown.form
  rw [hbl] at hc hv ⊢
  clear hown hcg hBi
  replace hv := hide hv
  have hcg := blk_cell hg.out
  go_wp2_with fail
  refine (hR.out w2).mono ?_
  rintro e w3 ⟨rfl, hb3⟩
  replace hB := hide (hB.out.trans (hb3.mono hB.out.size))
  replace hg := hide (blk_on hb3 hg.out)
  replace hv := hide (hv.out.on hb3)
  clear hb3
  clear hcg hR
  have hcg := blk_cell hg.out
  cases RB
  · obtain rfl : RP = false := hn1.out rfl
    clear hn1 hn2 hn3 hrp
    go_wp2_with fail
    go_ret
    exact ⟨rfl, hB.out⟩
  by_cases h0 : i < 0
  · have t0 : decide (i < 0) = true := decide_eq_true h0
    obtain rfl : RP = false := hn2.out h0
    clear hn1 hn2 hn3 hrp
    go_wp2_with fail
    go_ret
    exact ⟨rfl, hB.out⟩
  have t0 : decide (i < 0) = false := decide_eq_false h0
  by_cases hw : (W : Int) < i
  · have t1 : decide ((W : Int) < i) = true := decide_eq_true hw
    obtain rfl : RP = false := hn3.out (by omega) hw
    clear hn1 hn2 hn3 hrp
    go_wp2_with fail
    go_ret
    exact ⟨rfl, hB.out⟩
  have t1 : decide ((W : Int) < i) = false := decide_eq_false hw
  obtain ⟨k0, rfl⟩ : ∃ k0 : Nat, i = (k0 : Int) := ⟨i.toNat, by omega⟩
  have hk0 : k0 ≤ W := by omega
  have hrp0 := hrp.out k0 rfl rfl hk0
  obtain ⟨b, off, rfl, hb, hcells⟩ := ints_ptr hv.out hw32
  have t2 : ¬ W < k0 := by omega
  clear hn1 hn2 hn3 hrp h0 hw
  replace hrp0 := hide hrp0
  replace hcells := hide hcells
  go_wp2_with fail
  go_loopw [4] (fun iv wr => ∃ k : Nat, k0 ≤ k ∧ k ≤ W ∧ iv = .int .i64 (k : Int) ∧ (∀ j, k0 ≤ j → j < k → f j = 0) ∧ w3 = wr) (fun iv _ => W - (intOf iv).toNat)
  case atStart => exact ⟨k0, by omega, hk0, rfl, fun j h1 h2 => by omega, rfl⟩
  case round =>
    obtain ⟨k, hk1, hk2, rfl, hall, rfl⟩ := hrel
    by_cases hkW : k < W
    · have i1 : (k : Int) < (W : Int) := by omega
      have i2 : (0 : Int) ≤ (k : Int) := by omega
      have hck := hcells.out k _ (hbg.out k hkW)
      obtain ⟨y, hy⟩ : ∃ y, f k = y := ⟨_, rfl⟩
      rw [hy] at hck
      clear hcg
      by_cases hy0 : y = 0
      · subst hy0
        have hall' : ∀ j, k0 ≤ j → j < k + 1 → f j = 0 := fun j h1 h2 => by
          rcases Nat.lt_or_ge j k with h | h
          · exact hall j h1 h
          · obtain rfl : j = k := by omega
            exact hy
        replace hall := hide hall
        replace hall' := hide hall'
        replace hy := hide hy
        go_wp2_with fail
        exact ⟨⟨k + 1, by omega, by omega, by first | rfl | go_num, hall'.out, by first | rfl | trivial⟩, by simp only [intOf]; omega⟩
      · have t3 : ((y : Int) != 0) = true := by rw [bne_iff_ne]; omega
        obtain rfl : RP = false := by
          cases RP
          · rfl
          · exact absurd (hrp0.out.1 rfl k hk1 hkW) (by rw [hy]; exact hy0)
        replace hall := hide hall
        replace hy := hide hy
        go_wp2_with fail
        go_ret
        exact ⟨rfl, hB.out⟩
    · obtain rfl : k = W := by omega
      have i1 : ((k : Int) < (k : Int)) = False := by simp
      obtain rfl : RP = true := hrp0.out.2 fun j h1 h2 => hall j h1 h2
      clear hcg hk0 hk2
      replace hall := hide hall
      replace hkW := hide hkW
      go_wp2_with fail
      go_ret
      exact ⟨rfl, hB.out⟩
end Addr05
end Go.Proofs.YtccmbnaakdffaaaDoor
/- The walk of PfxTexts: it answers true. Condition: the cell of bytealg.MaxLen. -/
namespace Go.Proofs.YtccmbnaakdffaaaDoor
open Go.RowKit Go.ChangeShapes Go.WideShapes Go.ChangeAt Go.Deep
namespace Addr05
theorem textP_len (a : Adr) (n : Nat) (hn : n ≤ 128) : (textP a n).length ≤ 43 := by
  unfold textP
  rw [List.length_append, List.length_cons]
  have h1 := textA_len a
  have h2 := dig10_len n (by omega)
  omega
set_option maxRecDepth 20000 in
set_option maxHeartbeats 8000000 in
theorem ptexts_walk (a : Adr) (ho : a.ok) (i : Int) (s : List UInt8) (hsl : s.length ≤ 9223372036854775807) (w : World) (hm : MaxAt w) :
    Calls Tryd.prog 7 #[.agg (pArr a i), .string (str s)] w fun e w' => e = .returned (.bool true) ∧ Below w.heap.size w w' := by
  have hR := fun w => pright_any a ho i w
  have hTx := pText_any a ho i
  have hLT : ∀ n : Nat, i = (n : Int) → n ≤ 128 → ∀ w : World, Calls Tryd.prog 28 #[.agg (pArr a i)] w fun e w' => e = .returned (.string (str (textP a n))) ∧ Below w.heap.size w w' := by
    intro n h1 h2 w
    subst h1
    exact pltext_any a ho n h2 w
  have hpos : rightP a i = true → ∃ n : Nat, i = (n : Int) ∧ n ≤ 128 ∧ (min (max i 0) 128).toNat = n ∧ pfxF (textP a n) = some (a, n) := fun h => by
    have h0 : 0 ≤ i := by
      rcases Int.lt_or_le i 0 with h1 | h1
      · rw [right_no2 a i h1] at h; cases h
      · exact h1
    obtain ⟨k, rfl⟩ : ∃ k : Nat, i = (k : Int) := ⟨i.toNat, by omega⟩
    rw [rightP_nat] at h
    have h3 := (rightP_w a k h).2.1
    have h4 := a.w_le
    exact ⟨k, rfl, by omega, clamp128 a k h, pfx_text a k ho h⟩
  obtain ⟨RP, hRP⟩ : ∃ x, rightP a i = x := ⟨_, rfl⟩
  rw [hRP] at hR hpos
  have hA := pawake_any
  have hz : (str s).size = s.length := size_str s
  obtain ⟨s1, hs1⟩ : ∃ x, s.take 80 = x := ⟨_, rfl⟩
  have hl1 : s1.length ≤ 80 := by rw [← hs1, List.length_take]; omega
  unfold pArr at hR hTx hLT ⊢
  obtain ⟨w1, hw1⟩ : ∃ w1, w.alloc (.cells #[.bool a.v6, .int .u64 (a.hi : Int), .int .u64 (a.lo : Int), .int .i64 i] 45) = w1 := ⟨_, rfl⟩
  have hB : Below w.heap.size w w1 := hw1 ▸ (Below.refl _ _).alloc (Nat.le_refl _) _
  have hg : w1.heap[w.heap.size]? = some (.cells #[.bool a.v6, .int .u64 (a.hi : Int), .int .u64 (a.lo : Int), .int .i64 i] 45 (0, 0)) := hw1 ▸ blk_new _ _ _
  have hm1 := hm.below hB
  clear hm hRP
  replace hB := hide hB
  replace hg := hide hg
  replace hm1 := hide hm1
  replace hR := hide hR
  replace hTx := hide hTx
  replace hLT := hide hLT
  replace hpos := hide hpos
  replace hA := hide hA
  replace hs1 := hide hs1
  go_enter Tryd.func7, Tryd.ntmps7
  go_upto_if 11 with fail
  clear hw1
  go_cut [1] (fun sv wx => sv = .string (str s1) ∧ w1 = wx)
  case first =>
    by_cases h80 : 80 < s.length
    · have t1 : decide ((80 : Int) < (s.length : Int)) = true := by rw [decide_eq_true_eq]; omega
      have i1 : (80 : Int) ≤ (s.length : Int) := by omega
      have ex : (str s).extract 0 80 = str s1 := by rw [← hs1.out]; exact str_extract s 0 80
      replace hs1 := hide hs1
      go_wp2_with fail
      go_meet
      exact ⟨by first | rfl | rw [ex], rfl⟩
    · have t1 : decide ((80 : Int) < (s.length : Int)) = false := by rw [decide_eq_false_iff_not]; omega
      have e1 : s1 = s := by rw [← hs1.out]; exact List.take_of_length_le (by omega)
      replace h80 := hide h80
      subst e1
      go_wp2_with fail
      go_meet
      exact ⟨rfl, rfl⟩
  case rest =>
    obtain ⟨rfl, rfl⟩ := hcut
    clear hs1 hz hsl
    have hcg := blk_cell hg.out
    go_wp2_with fail
    refine (hR.out w1).mono ?_
    rintro e w2 ⟨rfl, hb2⟩
    replace hB := hide (hB.out.trans (hb2.mono hB.out.size))
    replace hg := hide (blk_on hb2 hg.out)
    replace hm1 := hide (hm1.out.below hb2)
    clear hb2
    clear hcg
    go_upto_if 15 with fail
    go_cut [] (fun wx => Below w2.heap.size w2 wx)
    case first =>
      cases RP
      · go_wp2_with fail
        go_meet
        exact Below.refl _ _
      · obtain ⟨n, hi, hn, hmm, hpf⟩ := hpos.out rfl
        have hTx1 := hTx.out
        rw [hmm] at hTx1
        have hLT1 := hLT.out n hi hn
        have hlT := textP_len a n hn
        obtain ⟨T, hT⟩ : ∃ x, textP a n = x := ⟨_, rfl⟩
        rw [hT] at hTx1 hLT1 hpf hlT
        have hPP := pParse_any T (by omega)
        rw [hpf] at hPP
        have hPP' : ∀ w : World, MaxAt w → Calls Tryd.prog 26 #[.string (str T)] w fun e w' => e = .returned (.tuple #[.agg #[.bool a.v6, .int .u64 (a.hi : Int), .int .u64 (a.lo : Int), .int .i64 i], .int .i64 0]) ∧ Below w.heap.size w w' := by
          intro w hw
          rw [hi]
          exact hPP w hw
        clear hTx hLT hpos hPP hpf hi hmm hT
        have hcg := blk_cell hg.out
        replace hTx1 := hide hTx1
        replace hLT1 := hide hLT1
        replace hPP' := hide hPP'
        replace hn := hide hn
        go_upto_region 4 with fail
        apply wp_region_lit
        iterate 1 (refine wpList_plain rfl fun K hK => ?_; go_simp; refine hK _ _ ?_; clear hK K)
        refine wpList_plain rfl fun K hK => ?_
        go_simp
        refine (hTx1.out w2).mono ?_
        rintro e w3 ⟨rfl, hb3⟩
        have hg3 := blk_on hb3 hg.out
        have hm3 := hm1.out.below hb3
        have hz3 := hb3.size
        clear hcg
        replace hb3 := hide hb3
        replace hg3 := hide hg3
        replace hm3 := hide hm3
        go_simp
        refine hK _ _ ?_
        clear hK K
        refine wpList_plain rfl fun K hK => ?_
        go_simp
        refine (hPP'.out w3 hm3.out).mono ?_
        rintro e w4 ⟨rfl, hb4⟩
        have hg4 := blk_on hb4 hg3.out
        have hb24 := hb3.out.trans (hb4.mono hz3)
        clear hb3 hb4 hg3 hm3
        have hz4 := hb24.size
        replace hg4 := hide hg4
        replace hb24 := hide hb24
        go_simp
        refine hK _ _ ?_
        clear hK K
        iterate 3 (refine wpList_plain rfl fun K hK => ?_; go_simp; refine hK _ _ ?_; clear hK K)
        refine wpl_new rfl rfl 45 _ (alloc_pfx _ rfl) 5 rfl (.tmp 20) rfl _ (fun _ => rfl) (fun _ => rfl) rfl (by kernel_rfl) (p_one a.v6 (a.hi : Int) (a.lo : Int) i) ?_
        intro w5 hq5 hb5 hz5
        have hg5 := blk_on hb5 hg4.out
        have hb25 := hb24.out.trans (hb5.mono hz4)
        have hz25 := hb25.size
        clear hb24 hb5 hg4
        replace hg5 := hide hg5
        replace hb25 := hide hb25
        replace hq5 := hide hq5
        iterate 1 (refine wpList_plain rfl fun K hK => ?_; go_simp; refine hK _ _ ?_; clear hK K)
        refine wpList_nil ?_
        go_simp
        go_upto_region 5 with fail
        have hca := fun l : Later w5 => blk_cell (blk_on l.hb hg5.out)
        have hcb := fun l : Later w5 => blk_cell (blk_on l.hb hq5.out)
        have q1 := fun l : Later w5 => hTx1.out l.w
        have q2 := fun l : Later w5 => hLT1.out l.w
        replace q1 := hide q1
        replace q2 := hide q2
        refine wp_region_L (by as_aux_lemma => kernel_rfl) ?_
        refine wpE_seg 0 14 (fuel := 0) (by as_aux_lemma => kernel_rfl) (fun d _ _ _ _ h => by cases d <;> exact h) (by as_aux_lemma => kernel_rfl) (by as_aux_lemma => kernel_rfl) ?_
        simp only [List.drop_zero, List.take_succ_cons, List.take_zero]
        iterate 1 (refine wpQE_step (fun K hK => ?_); go_simp; refine hK _ ?_; clear hK K)
        (refine wpQE_step (fun K hK => ?_); go_simp; apply Exists.intro; refine ⟨fun l => ?_, hK _ ?_⟩; (go_at_call 27; refine (q1.out l).mono ?_; rintro e w' ⟨rfl, hb⟩; exact ⟨rfl, hb⟩); clear hK K)
        iterate 1 (refine wpQE_step (fun K hK => ?_); go_simp; refine hK _ ?_; clear hK K)
        (refine wpQE_step (fun K hK => ?_); go_simp; apply Exists.intro; refine ⟨fun l => ?_, hK _ ?_⟩; (go_at_call 28; refine (q2.out l).mono ?_; rintro e w' ⟨rfl, hb⟩; exact ⟨rfl, hb⟩); clear hK K)
        iterate 10 (refine wpQE_step (fun K hK => ?_); go_simp; refine hK _ ?_; clear hK K)
        refine wpQE_nil ?_
        refine wpE_done (by as_aux_lemma => kernel_rfl) (fun w6 hb6 => ?_) 0
        have hb26 := hb25.out.trans (hb6.mono hz25)
        clear hb6 hb25 hca hcb q1 q2 hg5 hq5
        replace hb26 := hide hb26
        go_wp2_with fail
        go_meet
        exact hb26.out
    case rest =>
      replace hB := hide (hB.out.trans (hcut.mono hB.out.size))
      replace hg := hide (blk_on hcut hg.out)
      replace hm1 := hide (hm1.out.below hcut)
      clear hcut
      have hP := pParse_any s1 hl1 wc hm1.out
      have hso : ∀ b m, pfxF s1 = some (b, m) → b.rightP m = true ∧ textP b m = s1 ∧ b.ok := fun b m h => pfx_some s1 b m h
      have hne : pfxF s1 = none → RP = true → ∃ n : Nat, i = (n : Int) ∧ n ≤ 128 ∧ textP a n ≠ s1 := fun h1 h2 => by
        obtain ⟨n, h3, h4, h5, h6⟩ := hpos.out h2
        exact ⟨n, h3, h4, fun e => by rw [e, h1] at h6; cases h6⟩
      obtain ⟨PF, hPF⟩ : ∃ x, pfxF s1 = x := ⟨_, rfl⟩
      rw [hPF] at hP hso hne
      clear hPF hpos hTx
      cases PF with
      | none =>
        have hP' : Calls Tryd.prog 26 #[.string (str s1)] wc fun e w' => e = .returned (.tuple #[.agg #[.bool false, .int .u64 0, .int .u64 0, .int .i64 0], .int .i64 18]) ∧ Below wc.heap.size wc w' := hP
        have hne' := hne rfl
        clear hP hso hne
        replace hP' := hide hP'
        replace hne' := hide hne'
        go_upto_region 7 with fail
        apply wp_region_lit
        iterate 1 (refine wpList_plain rfl fun K hK => ?_; go_simp; refine hK _ _ ?_; clear hK K)
        refine wpList_plain rfl fun K hK => ?_
        go_simp
        refine (hP'.out).mono ?_
        rintro e w3 ⟨rfl, hb3⟩
        replace hB := hide (hB.out.trans (hb3.mono hB.out.size))
        replace hg := hide (blk_on hb3 hg.out)
        replace hm1 := hide (hm1.out.below hb3)
        clear hb3
        clear hP'
        go_simp
        refine hK _ _ ?_
        clear hK K
        iterate 3 (refine wpList_plain rfl fun K hK => ?_; go_simp; refine hK _ _ ?_; clear hK K)
        refine wpl_new rfl rfl 45 _ (alloc_pfx _ rfl) 7 rfl (.tmp 39) rfl _ (fun _ => rfl) (fun _ => rfl) rfl (by kernel_rfl) (p_one false 0 0 0) ?_
        intro w4 hgx hb4 hz4
        replace hB := hide (hB.out.trans (hb4.mono hB.out.size))
        replace hg := hide (blk_on hb4 hg.out)
        replace hm1 := hide (hm1.out.below hb4)
        clear hb4
        iterate 1 (refine wpList_plain rfl fun K hK => ?_; go_simp; refine hK _ _ ?_; clear hK K)
        refine wpList_nil ?_
        go_simp
        have hcg := blk_cell hg.out
        have hcx := blk_cell hgx
        replace hgx := hide hgx
        go_wp2_with fail
        refine (hR.out w4).mono ?_
        rintro e w5 ⟨rfl, hb5⟩
        replace hB := hide (hB.out.trans (hb5.mono hB.out.size))
        replace hg := hide (blk_on hb5 hg.out)
        replace hm1 := hide (hm1.out.below hb5)
        clear hb5
        clear hcg hcx
        cases RP
        · go_wp2_with fail
          refine (hA.out w5 hm1.out).mono ?_
          rintro e w6 ⟨rfl, hb6⟩
          replace hB := hide (hB.out.trans (hb6.mono hB.out.size))
          replace hg := hide (blk_on hb6 hg.out)
          replace hm1 := hide (hm1.out.below hb6)
          clear hb6
          go_wp2_with fail
          go_ret
          exact ⟨rfl, hB.out⟩
        · obtain ⟨n, hi, hn, hT⟩ := hne'.out rfl
          have hLT1 := hLT.out n hi hn w5
          obtain ⟨T, hTe⟩ : ∃ x, textP a n = x := ⟨_, rfl⟩
          rw [hTe] at hLT1 hT
          have tq : ((str T).toList == (str s1).toList) = false := by rw [str_toList, str_toList]; simpa using hT
          clear hLT hne' hi hn hTe
          have hcg := blk_cell hg.out
          replace hLT1 := hide hLT1
          replace hT := hide hT
          go_wp2_with fail
          refine hLT1.out.mono ?_
          rintro e w6 ⟨rfl, hb6⟩
          replace hB := hide (hB.out.trans (hb6.mono hB.out.size))
          replace hg := hide (blk_on hb6 hg.out)
          replace hm1 := hide (hm1.out.below hb6)
          clear hb6
          clear hcg
          go_wp2_with fail
          refine (hA.out w6 hm1.out).mono ?_
          rintro e w7 ⟨rfl, hb7⟩
          replace hB := hide (hB.out.trans (hb7.mono hB.out.size))
          replace hg := hide (blk_on hb7 hg.out)
          replace hm1 := hide (hm1.out.below hb7)
          clear hb7
          go_wp2_with fail
          go_ret
          exact ⟨rfl, hB.out⟩
      | some x =>
        obtain ⟨⟨v, h, l⟩, m⟩ := x
        obtain ⟨hr, ht, hok⟩ := hso _ _ rfl
        have hm128 : m ≤ 128 := Nat.le_trans (rightP_w _ _ hr).2.1 (Adr.w_le _)
        have hP' : Calls Tryd.prog 26 #[.string (str s1)] wc fun e w' => e = .returned (.tuple #[.agg #[.bool v, .int .u64 (h : Int), .int .u64 (l : Int), .int .i64 (m : Int)], .int .i64 0]) ∧ Below wc.heap.size wc w' := hP
        have hR2 := fun w => pright_any ⟨v, h, l⟩ hok (m : Int) w
        have hT2 := fun w => pltext_any ⟨v, h, l⟩ hok m hm128 w
        rw [rightP_nat, hr] at hR2
        rw [ht] at hT2
        unfold pArr at hR2 hT2
        dsimp only at hR2 hT2
        clear hP hso hne hR hLT hr ht hok hg
        replace hP' := hide hP'
        replace hR2 := hide hR2
        replace hT2 := hide hT2
        go_upto_region 7 with fail
        apply wp_region_lit
        iterate 1 (refine wpList_plain rfl fun K hK => ?_; go_simp; refine hK _ _ ?_; clear hK K)
        refine wpList_plain rfl fun K hK => ?_
        go_simp
        refine (hP'.out).mono ?_
        rintro e w3 ⟨rfl, hb3⟩
        replace hB := hide (hB.out.trans (hb3.mono hB.out.size))
        replace hm1 := hide (hm1.out.below hb3)
        clear hb3
        clear hP'
        go_simp
        refine hK _ _ ?_
        clear hK K
        iterate 3 (refine wpList_plain rfl fun K hK => ?_; go_simp; refine hK _ _ ?_; clear hK K)
        refine wpl_new rfl rfl 45 _ (alloc_pfx _ rfl) 7 rfl (.tmp 39) rfl _ (fun _ => rfl) (fun _ => rfl) rfl (by kernel_rfl) (p_one v (h : Int) (l : Int) (m : Int)) ?_
        intro w4 hgx hb4 hz4
        replace hB := hide (hB.out.trans (hb4.mono hB.out.size))
        replace hm1 := hide (hm1.out.below hb4)
        clear hb4
        iterate 1 (refine wpList_plain rfl fun K hK => ?_; go_simp; refine hK _ _ ?_; clear hK K)
        refine wpList_nil ?_
        go_simp
        have hcx := blk_cell hgx
        replace hgx := hide hgx
        go_wp2_with fail
        refine (hR2.out w4).mono ?_
        rintro e w5 ⟨rfl, hb5⟩
        have hgx5 := blk_on hb5 hgx.out
        replace hB := hide (hB.out.trans (hb5.mono hB.out.size))
        replace hm1 := hide (hm1.out.below hb5)
        clear hb5
        clear hcx hgx
        have hcx := blk_cell hgx5
        replace hgx5 := hide hgx5
        go_wp2_with fail
        refine (hT2.out w5).mono ?_
        rintro e w6 ⟨rfl, hb6⟩
        replace hB := hide (hB.out.trans (hb6.mono hB.out.size))
        replace hm1 := hide (hm1.out.below hb6)
        clear hb6
        clear hcx
        go_wp2_with fail
        refine (hA.out w6 hm1.out).mono ?_
        rintro e w7 ⟨rfl, hb7⟩
        replace hB := hide (hB.out.trans (hb7.mono hB.out.size))
        replace hm1 := hide (hm1.out.below hb7)
        clear hb7
        go_wp2_with fail
        go_ret
        exact ⟨rfl, hB.out⟩
theorem ptexts_row (v : Bool) (h l i : Int) (s : ByteArray) (w : World) (h1 : (Lit.int .u64 h).wf = true) (h2 : (Lit.int .u64 l).wf = true) (_ : (Lit.int .i64 i).wf = true) (hs : s.size ≤ maxLen) (hm : MaxAt w) :
    Calls Tryd.prog 7 #[.agg #[.bool v, .int .u64 h, .int .u64 l, .int .i64 i], .string s] w fun e w' => e = .returned (.bool true) ∧ Below w.heap.size w w' := by
  obtain ⟨h, rfl, h1'⟩ := u64_nat h1
  obtain ⟨l, rfl, h2'⟩ := u64_nat h2
  have hh := ptexts_walk ⟨v, h, l⟩ ⟨h1', h2'⟩ i s.data.toList (by unfold maxLen at hs; rw [Array.length_toList]; exact hs) w hm
  rw [str_data] at hh
  exact hh
end Addr05
end Go.Proofs.YtccmbnaakdffaaaDoor
