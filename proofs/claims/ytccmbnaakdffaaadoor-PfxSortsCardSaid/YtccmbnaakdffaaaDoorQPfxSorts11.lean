/- pfx: Parse: the prefix that a text is. Condition: the cell of bytealg.MaxLen, a text of at most 80 bytes. -/
import Derived.Test.YtccmbnaakdffaaaDoorQPfxSorts10
import Derived.Test.YtccmbnaakdffaaaDoorQPfxSorts8
import Derived.Test.YtccmbnaakdffaaaDoorQPfxSorts9
import Derived.Lib.ConvBytes
namespace Go.Proofs.YtccmbnaakdffaaaDoor
open Go.RowKit Go.ChangeShapes Go.WideShapes Go.ChangeAt Go.Deep
namespace Addr05
def pZ : Array Value := #[.bool false, .int .u64 0, .int .u64 0, .int .i64 0]
def pArrO : Option (Adr × Nat) → Array Value
  | none => #[.bool false, .int .u64 0, .int .u64 0, .int .i64 0]
  | some p => #[.bool p.1.v6, .int .u64 (p.1.hi : Int), .int .u64 (p.1.lo : Int), .int .i64 (p.2 : Int)]
theorem p_one (v6 : Bool) (hi lo i : Int) : (#[.bool v6, .int .u64 hi, .int .u64 lo, .int .i64 i] : Array Value).all (·.oneCell') = true := all_oneCell_toArray (by
  intro v hv
  simp only [List.mem_cons, List.not_mem_nil, or_false] at hv
  rcases hv with rfl | rfl | rfl | rfl <;> rfl)
theorem alloc_pfx (o : Oper) (h : o.op = .alloc 45) (ρ : Operand → Value) (w : World) : (execOp ρ o).run Tryd.prog w = .ok (.value (.pointer (some ⟨w.heap.size, 0, none⟩))) (w.alloc (.cells #[.bool false, .int .u64 0, .int .u64 0, .int .i64 0] 45)) := by
  obtain ⟨d, op, t, ps, af, g⟩ := o
  dsimp only at h
  subst h
  kernel_rfl
/-- A text's bytes, in a new row. -/
theorem bytes_any (s : List UInt8) (w : World) : ∃ w' c, (convert 9 38 (.string (str s))).run Tryd.prog w = .ok (.slice (some ⟨w.heap.size, 0, none⟩) s.length c) w' ∧ IsB w' w'.heap.size (some ⟨w.heap.size, 0, none⟩) s.length s ∧ Below w.heap.size w w' := by
  have h := Lib.run_convert_string_bytes (P := Tryd.prog) w 9 38 5 (str s) Tryd.underlying9 Tryd.underlying38 Tryd.underlying5
  rw [size_str] at h
  refine ⟨_, _, h, ⟨rfl, fun hn => ⟨_, 0, rfl, by rw [Lib.bytesWorld_size]; omega, fun j hj => ?_⟩⟩, ?_⟩
  · rw [Nat.zero_add, Lib.bytesWorld_cell w _ (str s) j (by rw [size_str]; exact hj), str_list]
    unfold u8v
    rw [List.getD_eq_getElem?_getD, List.getElem?_eq_getElem hj]
    rfl
  · exact ⟨rfl, rfl, rfl, by rw [Lib.bytesWorld_size]; omega, fun j hj => Lib.bytesWorld_at_old _ _ _ j hj⟩
/-- What is made of the parts of a text. -/
def pfxG (r : Option Adr) (c : Bool) (T : List UInt8) : Option (Adr × Nat) :=
  match r with
  | none => none
  | some a => if c = false ∨ T.length < 1 ∨ 3 < T.length then none else match tailF 0 T with
    | none => none
    | some n => if a.rightP n = true ∧ digL 10 n = T then some (a, n) else none
theorem pfxF_G (s : List UInt8) : pfxF s = pfxG (parseF (Lib.cut s [47]).1) (Lib.cut s [47]).2.2 (Lib.cut s [47]).2.1 := by
  unfold pfxF pfxG
  rfl
def goodG (a : Adr) (T : List UInt8) : Option Nat → Option (Adr × Nat)
  | none => none
  | some n => if a.rightP n = true ∧ digL 10 n = T then some (a, n) else none
theorem rightP_nat (a : Adr) (m : Nat) : rightP a (m : Int) = a.rightP m := by
  unfold rightP
  rw [decide_eq_true (by omega), Bool.true_and, Int.toNat_natCast]
theorem clamp128 (a : Adr) (m : Nat) (h : a.rightP m = true) : (min (max (m : Int) 0) 128).toNat = m := by
  have h1 := (rightP_w a m h).2.1
  have h2 := a.w_le
  omega
theorem pfxG_bad (r : Option Adr) (C : Bool) (T : List UInt8) (h : (!C || (errP r != 0) || decide ((T.length : Int) < 1) || decide ((3 : Int) < (T.length : Int))) = true) : pfxG r C T = none := by
  unfold pfxG
  cases r with
  | none => rfl
  | some a =>
    dsimp only
    rw [if_pos]
    simp only [Bool.or_eq_true, Bool.not_eq_true', bne_iff_ne, decide_eq_true_eq] at h
    rcases h with ((h | h) | h) | h
    · exact .inl h
    · exact absurd rfl h
    · exact .inr (.inl (by omega))
    · exact .inr (.inr (by omega))
theorem pfxG_good (r : Option Adr) (C : Bool) (T : List UInt8) (h : (!C || (errP r != 0) || decide ((T.length : Int) < 1) || decide ((3 : Int) < (T.length : Int))) = false) : ∃ a, r = some a ∧ pfxG r C T = goodG a T (tailF 0 T) ∧ 1 ≤ T.length ∧ T.length ≤ 3 := by
  simp only [Bool.or_eq_false_iff, Bool.not_eq_false', decide_eq_false_iff_not] at h
  obtain ⟨⟨⟨h1, h2⟩, h3⟩, h4⟩ := h
  cases r with
  | none => cases h2
  | some a =>
    refine ⟨a, rfl, ?_, by omega, by omega⟩
    unfold pfxG goodG
    dsimp only
    rw [if_neg (by
      rintro (h | h | h)
      · rw [h1] at h; cases h
      · omega
      · omega)]
set_option maxRecDepth 20000 in
set_option maxHeartbeats 8000000 in
theorem pParse_any (s : List UInt8) (hs : s.length ≤ 80) (w : World) (hm : MaxAt w) :
    Calls Tryd.prog 26 #[.string (str s)] w fun e w' => e = .returned (.tuple #[.agg (pArrO (pfxF s)), .int .i64 (if (pfxF s).isSome then 0 else 18)]) ∧ Below w.heap.size w w' := by
  rw [pfxF_G]
  obtain ⟨w1, hw1⟩ : ∃ w1, w.alloc (.cells #[.bool false, .int .u64 0, .int .u64 0, .int .i64 0] 45) = w1 := ⟨_, rfl⟩
  have hB : Below w.heap.size w w1 := hw1 ▸ (Below.refl _ _).alloc (Nat.le_refl _) _
  have hg : w1.heap[w.heap.size]? = some (.cells #[.bool false, .int .u64 0, .int .u64 0, .int .i64 0] 45 (0, 0)) := hw1 ▸ blk_new _ _ _
  have hm1 := hm.below hB
  have hcut := cut_any [47] s hs w1 hm1
  have hcl := cut_len s [47]
  obtain ⟨H, hH⟩ : ∃ x, (Lib.cut s [47]).1 = x := ⟨_, rfl⟩
  obtain ⟨T, hT⟩ : ∃ x, (Lib.cut s [47]).2.1 = x := ⟨_, rfl⟩
  obtain ⟨C, hC⟩ : ∃ x, (Lib.cut s [47]).2.2 = x := ⟨_, rfl⟩
  rw [hH, hT, hC] at hcut ⊢
  rw [hH, hT] at hcl
  have hP := Parse_any H (by omega)
  have hTl : T.length ≤ 80 := by omega
  have hps := fun a h => (parse_some H a h).2.1
  obtain ⟨PF, hPF⟩ : ∃ x, parseF H = x := ⟨_, rfl⟩
  rw [hPF] at hP hps ⊢
  obtain ⟨R, hR⟩ : ∃ x, pfxG PF C T = x := ⟨_, rfl⟩
  rw [hR]
  have hzT : (str T).size = T.length := size_str T
  clear hH hT hC hPF hcl hm
  obtain ⟨ar, har⟩ : ∃ a : Adr, adrP PF = a.arr := by
    cases PF with
    | none => exact ⟨⟨false, 0, 0⟩, rfl⟩
    | some a => exact ⟨a, rfl⟩
  obtain ⟨E, hE⟩ : ∃ x, errP PF = x := ⟨_, rfl⟩
  rw [har, hE] at hP
  replace hB := hide hB
  replace hg := hide hg
  replace hm1 := hide hm1
  replace hcut := hide hcut
  replace hP := hide hP
  replace hps := hide hps
  replace hR := hide hR
  replace har := hide har
  replace hE := hide hE
  go_enter Tryd.func26, Tryd.ntmps26
  go_wp2_with fail
  clear hw1
  refine hcut.out.mono ?_
  rintro e w2 ⟨rfl, hb2⟩
  replace hB := hide (hB.out.trans (hb2.mono hB.out.size))
  replace hg := hide (blk_on hb2 hg.out)
  replace hm1 := hide (hm1.out.below hb2)
  clear hb2
  clear hcut
  have hP2 := hP.out w2 hm1.out
  obtain ⟨av, ah, al⟩ := ar
  unfold Adr.arr at hP2
  clear hP
  replace hP2 := hide hP2
  go_upto_region 2 with fail
  apply wp_region_lit
  iterate 1 (refine wpList_plain rfl fun K hK => ?_; go_simp; refine hK _ _ ?_; clear hK K)
  refine wpList_plain rfl fun K hK => ?_
  go_simp
  refine (hP2.out).mono ?_
  rintro e w3 ⟨rfl, hb3⟩
  replace hB := hide (hB.out.trans (hb3.mono hB.out.size))
  replace hg := hide (blk_on hb3 hg.out)
  replace hm1 := hide (hm1.out.below hb3)
  clear hb3
  clear hP2
  go_simp
  refine hK _ _ ?_
  clear hK K
  iterate 3 (refine wpList_plain rfl fun K hK => ?_; go_simp; refine hK _ _ ?_; clear hK K)
  refine wpl_new rfl rfl 24 _ (alloc_adr _ rfl) 7 rfl (.tmp 21) rfl _ (fun _ => rfl) (fun _ => rfl) rfl (by kernel_rfl) (adr_one av (ah : Int) (al : Int)) ?_
  intro w4 hga hb4 hz4
  replace hB := hide (hB.out.trans (hb4.mono hB.out.size))
  replace hg := hide (blk_on hb4 hg.out)
  replace hm1 := hide (hm1.out.below hb4)
  clear hb4
  replace hga := hide hga
  iterate 1 (refine wpList_plain rfl fun K hK => ?_; go_simp; refine hK _ _ ?_; clear hK K)
  refine wpList_nil ?_
  go_simp
  obtain ⟨e0, he0⟩ : ∃ b, (E != 0) = b := ⟨_, rfl⟩
  obtain ⟨b1, hb1⟩ : ∃ b, decide ((T.length : Int) < 1) = b := ⟨_, rfl⟩
  obtain ⟨b2, hb2⟩ : ∃ b, decide ((3 : Int) < (T.length : Int)) = b := ⟨_, rfl⟩
  obtain ⟨BAD, hBAD⟩ : ∃ b, (!C || e0 || b1 || b2) = b := ⟨_, rfl⟩
  replace hBAD := hide hBAD
  go_upto_region 3 with fail
  go_cut [38] (fun bv wx => bv = .bool BAD ∧ w4 = wx)
  case first =>
    have hbad := hBAD.out
    clear hBAD
    replace hbad := hide hbad
    cases C
    · go_wp2_with fail
      go_meet
      exact ⟨by rw [← hbad.out]; rfl, rfl⟩
    cases e0
    · cases b1
      · go_wp2_with fail
        go_meet
        exact ⟨by rw [← hbad.out]; rfl, rfl⟩
      · go_wp2_with fail
        go_meet
        exact ⟨by rw [← hbad.out]; rfl, rfl⟩
    · go_wp2_with fail
      go_meet
      exact ⟨by rw [← hbad.out]; rfl, rfl⟩
  case rest =>
    obtain ⟨rfl, rfl⟩ := hcut
    cases BAD
    · obtain ⟨a, hPa, hRg, ht1, ht3⟩ : ∃ a, PF = some a ∧ R = goodG a T (tailF 0 T) ∧ 1 ≤ T.length ∧ T.length ≤ 3 := by
        have h := pfxG_good PF C T (by rw [hE.out, he0, hb1, hb2]; exact hBAD.out)
        rw [hR.out] at h
        exact h
      have hoa := hps.out a hPa
      have e1 := har.out
      rw [hPa] at e1
      obtain rfl : a = ⟨av, ah, al⟩ := by
        obtain ⟨v, h, l⟩ := a
        have e2 : (#[.bool v, .int .u64 (h : Int), .int .u64 (l : Int)] : Array Value) = #[.bool av, .int .u64 (ah : Int), .int .u64 (al : Int)] := e1
        simp at e2
        obtain ⟨rfl, h1, h2⟩ := e2
        congr 1 <;> omega
      clear hBAD hE he0 hb1 hb2 e1 hPa hR har hps
      replace hRg := hide hRg
      replace hoa := hide hoa
      go_upto_region 5 with fail
      apply wp_region_lit
      refine wpl_ld rfl 24 (.tmp 7) rfl w3.heap.size rfl _ _ hga.out Tryd.underlying24 rfl (by kernel_rfl) ?_
      iterate 1 (refine wpList_plain rfl fun K hK => ?_; go_simp; refine hK _ _ ?_; clear hK K)
      refine wpl_new rfl rfl 45 _ (alloc_pfx _ rfl) 9 rfl (.tmp 41) rfl _ (fun _ => rfl) (fun _ => rfl) rfl (by kernel_rfl) (p_one av (ah : Int) (al : Int) 0) ?_
      intro w5 hgp hb5 hz5
      have hlS := hB.out.size
      have hlS2 : w.heap.size < w4.heap.size := World.block_lt_of_cell? w4 _ (blk_cell hg.out 0)
      clear hga
      replace hB := hide (hB.out.trans (hb5.mono hB.out.size))
      replace hg := hide (blk_on hb5 hg.out)
      replace hm1 := hide (hm1.out.below hb5)
      replace hgp := hide hgp
      refine wpList_nil ?_
      go_simp
      obtain ⟨w6, c6, hcv, hrow, hb6⟩ := bytes_any T w5
      go_upto_region 6 with fail
      apply wp_region_lit
      iterate 2 (refine wpList_plain rfl fun K hK => ?_; go_simp; refine hK _ _ ?_; clear hK K)
      replace hB := hide (hB.out.trans (hb6.mono hB.out.size))
      replace hg := hide (blk_on hb6 hg.out)
      replace hm1 := hide (hm1.out.below hb6)
      replace hgp := hide (blk_on hb6 hgp.out)
      clear hb6
      clear hcv
      replace hrow := hide hrow
      iterate 2 (refine wpList_plain rfl fun K hK => ?_; go_simp; refine hK _ _ ?_; clear hK K)
      refine wpList_nil ?_
      go_simp
      go_upto_block 2 with fail
      have hzS : w.heap.size ≤ w4.heap.size := hlS
      obtain ⟨gp, hgpe⟩ : ∃ x, w4.heap.size = x := ⟨_, rfl⟩
      obtain ⟨rb, hrbe⟩ : ∃ x, w5.heap.size = x := ⟨_, rfl⟩
      have hgpz : w4.heap.size < w6.heap.size := World.block_lt_of_cell? w6 _ (blk_cell hgp.out 0)
      have hrbz : w5.heap.size < w6.heap.size := by
        obtain ⟨b, off, e, hb, -⟩ := hrow.out.ptr (by omega)
        cases e
        exact hb
      rw [hgpe] at hgp hgpz hz5 hzS hlS2 ⊢
      rw [hrbe] at hrow hz5 hrbz ⊢
      clear hm1
      replace hgpe := hide hgpe
      replace hrbe := hide hrbe
      obtain ⟨F, hF⟩ : ∃ F, tailF 0 T = F := ⟨_, rfl⟩
      have hRg' := hRg.out
      rw [hF] at hRg'
      clear hRg
      replace hRg' := hide hRg'
      replace hF := hide hF
      go_loopw [11, 45] (fun _ kv wr => ∃ k m : Nat, k ≤ T.length ∧ kv = .int .i64 (k : Int) ∧ m < 10 ^ k ∧ tailF m (T.drop k) = F ∧ w6.grownBy wr (some gp) ∧ wr.heap[gp]? = some (.cells #[.bool av, .int .u64 (ah : Int), .int .u64 (al : Int), .int .i64 (m : Int)] 45 (0, 0))) (fun _ kv _ => T.length - (intOf kv).toNat)
      case atStart => exact ⟨0, 0, by omega, rfl, by decide, hF.out, grown_refl _ _, hgp.out⟩
      case round =>
        obtain ⟨k, m, hk, rfl, hml, hf, hgr, hgm⟩ := hrel
        have hgrz := hgr.size
        have hgS := grown_other hgr (by omega) (by omega) hg.out
        have hBS : Below w.heap.size w wr := hB.out.trans (below_grown hgr (by have := hB.out.size; omega) (by omega))
        have hm999 : m < 1000 := Nat.lt_of_lt_of_le hml (Nat.le_trans (Nat.pow_le_pow_right (by omega) (show k ≤ 3 by omega)) (by decide))
        replace hf := hide hf
        replace hgr := hide hgr
        replace hgm := hide hgm
        replace hgS := hide hgS
        replace hBS := hide hBS
        replace hml := hide hml
        by_cases hkT : k < T.length
        · have i1 : (k : Int) < (T.length : Int) := by omega
          have i2 : (0 : Int) ≤ (k : Int) := by omega
          obtain ⟨v, hv, hvl, hcv⟩ := hrow.out.byteAt hkT
          have hcv := (World.cell?_of_block (hgr.out.block rb (by omega) (by intro e; cases e; omega))).trans hcv
          rw [Nat.zero_add] at hcv
          have hdr : T.drop k = T.getD k 0 :: T.drop (k + 1) := by
            rw [List.getD_eq_getElem?_getD, List.getElem?_eq_getElem hkT]
            exact List.drop_eq_getElem_cons hkT
          have hf1 := hf.out
          rw [hdr, tailF, hv] at hf1
          clear hdr
          replace hf1 := hide hf1
          replace hv := hide hv
          by_cases hd : 48 ≤ v ∧ v ≤ 57
          · have t1 : decide ((v : Int) < 48) = false := by rw [decide_eq_false_iff_not]; omega
            have t2 : decide ((57 : Int) < (v : Int)) = false := by rw [decide_eq_false_iff_not]; omega
            have n1 : ¬ (v : Int) < 48 := by omega
            have n2 : ¬ (57 : Int) < (v : Int) := by omega
            have w1' : IntKind.i64.wrap (10 * (m : Int)) = ((10 * m : Nat) : Int) := by rw [wraps62 _ (by omega) (by omega)]; omega
            obtain ⟨d, hdd⟩ : ∃ d, v - 48 = d := ⟨_, rfl⟩
            have w2' : IntKind.u8.wrap ((v : Int) - 48) = (d : Int) := by rw [IntKind.wrap_u8]; omega
            have w3' : IntKind.i64.wrap (d : Int) = (d : Int) := wraps62 _ (by omega) (by omega)
            obtain ⟨m10, hm10⟩ : ∃ x, 10 * m = x := ⟨_, rfl⟩
            rw [hm10] at w1'
            obtain ⟨m2, hm2⟩ : ∃ x, m10 + d = x := ⟨_, rfl⟩
            have w4' : IntKind.i64.wrap ((m10 : Int) + (d : Int)) = (m2 : Int) := by rw [wraps62 _ (by omega) (by omega)]; omega
            have hf2 := hf1.out
            rw [if_pos hd, hdd, hm10, hm2] at hf2
            obtain ⟨w9, e9, hg9, g9⟩ := store_cell hgm.out 3 (.int .i64 (m2 : Int))
            have hg9 : w9.heap[gp]? = some (.cells #[.bool av, .int .u64 (ah : Int), .int .u64 (al : Int), .int .i64 (m2 : Int)] 45 (0, 0)) := hg9
            have c9 := blk_cell hgm.out
            have f9 := blk_free hgm.out 3
            have hgr9 := grown_trans' _ _ _ hgr.out g9
            have hml2 : m2 < 10 ^ (k + 1) := by have := hml.out; rw [Nat.pow_succ]; omega
            clear g9
            replace hf2 := hide hf2
            replace hg9 := hide hg9
            replace hgr9 := hide hgr9
            replace hd := hide hd
            replace hdd := hide hdd
            replace hm10 := hide hm10
            replace hm2 := hide hm2
            replace hml2 := hide hml2
            go_wp2_with fail
            refine ⟨⟨k + 1, m2, by omega, by first | rfl | go_num, hml2.out, hf2.out, hgr9.out, hg9.out⟩, by simp only [intOf]; omega⟩
          · have hR0 : R = none := by
              have hf2 := hf1.out
              rw [if_neg hd] at hf2
              rw [hRg'.out, ← hf2]; rfl
            subst hR0
            clear hRg' hF
            have tt : decide ((v : Int) < 48) = true ∨ (decide ((v : Int) < 48) = false ∧ decide ((57 : Int) < (v : Int)) = true) := by
              rcases Nat.lt_or_ge v 48 with h | h
              · exact .inl (by rw [decide_eq_true_eq]; omega)
              · exact .inr ⟨by rw [decide_eq_false_iff_not]; omega, by rw [decide_eq_true_eq]; omega⟩
            replace hd := hide hd
            rcases tt with t1 | ⟨t1, t2⟩
            · have n1 : (v : Int) < 48 := of_decide_eq_true t1
              go_upto_region 10 with fail
              apply wp_region_lit
              iterate 1 (refine wpList_plain rfl fun K hK => ?_; go_simp; refine hK _ _ ?_; clear hK K)
              refine wpl_st rfl 45 (.tmp 2) (.tmp 55) rfl (w.heap.size) 0 rfl (#[.bool false, .int .u64 0, .int .u64 0, .int .i64 0]) rfl hgS.out (by simp) (by kernel_rfl) (p_one _ _ _ _) fun w9 hg9 g9 => ?_
              rw [putA_whole _ _ (by rfl)] at hg9
              have hb9 : Below (w.heap.size) w w9 := (hBS.out).trans (below_grown g9 (by have := (hBS.out).size; omega) (Nat.le_refl _))
              have hld : (loadVar 45 ⟨w.heap.size, 0, none⟩).run Tryd.prog w9 = .ok (.agg (#[.bool false, .int .u64 0, .int .u64 0, .int .i64 0])) w9 := by
                simpa using run_loadVar_mid w9 (w.heap.size) 0 45 (#[.bool false, .int .u64 0, .int .u64 0, .int .i64 0]).toList _ (blk_range hg9) Tryd.underlying45 rfl (by kernel_rfl)
              clear hg9 g9
              replace hld := hide hld
              replace hb9 := hide hb9
              iterate 1 (refine wpList_plain rfl fun K hK => ?_; go_simp; refine hK _ _ ?_; clear hK K)
              refine wpList_nil ?_
              go_simp
              go_wp2_with fail
              exact bodyPost_ret (v := .tuple #[.agg #[.bool false, .int .u64 0, .int .u64 0, .int .i64 0], .int .i64 18]) (by simp [results, Tryd.results26, asAddr, hld.out, Result.andThen]) rfl ⟨rfl, hb9.out⟩
            · have n1 : ¬ (v : Int) < 48 := of_decide_eq_false t1
              have n2 : (57 : Int) < (v : Int) := of_decide_eq_true t2
              go_upto_region 10 with fail
              apply wp_region_lit
              iterate 1 (refine wpList_plain rfl fun K hK => ?_; go_simp; refine hK _ _ ?_; clear hK K)
              refine wpl_st rfl 45 (.tmp 2) (.tmp 55) rfl (w.heap.size) 0 rfl (#[.bool false, .int .u64 0, .int .u64 0, .int .i64 0]) rfl hgS.out (by simp) (by kernel_rfl) (p_one _ _ _ _) fun w9 hg9 g9 => ?_
              rw [putA_whole _ _ (by rfl)] at hg9
              have hb9 : Below (w.heap.size) w w9 := (hBS.out).trans (below_grown g9 (by have := (hBS.out).size; omega) (Nat.le_refl _))
              have hld : (loadVar 45 ⟨w.heap.size, 0, none⟩).run Tryd.prog w9 = .ok (.agg (#[.bool false, .int .u64 0, .int .u64 0, .int .i64 0])) w9 := by
                simpa using run_loadVar_mid w9 (w.heap.size) 0 45 (#[.bool false, .int .u64 0, .int .u64 0, .int .i64 0]).toList _ (blk_range hg9) Tryd.underlying45 rfl (by kernel_rfl)
              clear hg9 g9
              replace hld := hide hld
              replace hb9 := hide hb9
              iterate 1 (refine wpList_plain rfl fun K hK => ?_; go_simp; refine hK _ _ ?_; clear hK K)
              refine wpList_nil ?_
              go_simp
              go_wp2_with fail
              exact bodyPost_ret (v := .tuple #[.agg #[.bool false, .int .u64 0, .int .u64 0, .int .i64 0], .int .i64 18]) (by simp [results, Tryd.results26, asAddr, hld.out, Result.andThen]) rfl ⟨rfl, hb9.out⟩
        · have i1 : ((k : Int) < (T.length : Int)) = False := by rw [eq_iff_iff, iff_false]; omega
          have hdn : T.drop k = [] := List.drop_of_length_le (by omega)
          have hf1 := hf.out
          rw [hdn, tailF] at hf1
          have hR1 : R = if (Adr.mk av ah al).rightP m = true ∧ digL 10 m = T then some (⟨av, ah, al⟩, m) else none := by rw [hRg'.out, ← hf1]; rfl
          clear hRg' hF hdn hf1 hf
          have hRi := pRight_any ⟨av, ah, al⟩ hoa.out (m : Int) wr
          have hNu := pnum_any (m : Int)
          have hcl := clamp128 ⟨av, ah, al⟩ m
          rw [rightP_nat] at hRi
          obtain ⟨RB, hRB⟩ : ∃ x, Adr.rightP ⟨av, ah, al⟩ m = x := ⟨_, rfl⟩
          rw [hRB] at hR1 hRi hcl
          unfold pArr at hRi
          dsimp only at hRi
          have hcg := blk_cell hgm.out
          replace hRi := hide hRi
          replace hNu := hide hNu
          replace hcl := hide hcl
          replace hR1 := hide hR1
          replace hRB := hide hRB
          go_wp2_with fail
          refine hRi.out.mono ?_
          rintro e w7 ⟨rfl, hb7⟩
          have hgm7 := blk_below hb7 (by omega) hgm.out
          have hgS7 := blk_below hb7 (by omega) hgS.out
          have hBS7 := hBS.out.trans (hb7.mono hBS.out.size)
          have hz7 := hb7.size
          clear hb7 hcg hgm hgS hBS hRi
          cases RB
          · obtain rfl : R = none := by rw [hR1.out, if_neg (by simp)]
            replace hgm7 := hide hgm7
            replace hgS7 := hide hgS7
            replace hBS7 := hide hBS7
            go_upto_region 14 with fail
            apply wp_region_lit
            iterate 1 (refine wpList_plain rfl fun K hK => ?_; go_simp; refine hK _ _ ?_; clear hK K)
            refine wpl_st rfl 45 (.tmp 2) (.tmp 75) rfl (w.heap.size) 0 rfl (#[.bool false, .int .u64 0, .int .u64 0, .int .i64 0]) rfl hgS7.out (by simp) (by kernel_rfl) (p_one _ _ _ _) fun w9 hg9 g9 => ?_
            rw [putA_whole _ _ (by rfl)] at hg9
            have hb9 : Below (w.heap.size) w w9 := (hBS7.out).trans (below_grown g9 (by have := (hBS7.out).size; omega) (Nat.le_refl _))
            have hld : (loadVar 45 ⟨w.heap.size, 0, none⟩).run Tryd.prog w9 = .ok (.agg (#[.bool false, .int .u64 0, .int .u64 0, .int .i64 0])) w9 := by
              simpa using run_loadVar_mid w9 (w.heap.size) 0 45 (#[.bool false, .int .u64 0, .int .u64 0, .int .i64 0]).toList _ (blk_range hg9) Tryd.underlying45 rfl (by kernel_rfl)
            clear hg9 g9
            replace hld := hide hld
            replace hb9 := hide hb9
            iterate 1 (refine wpList_plain rfl fun K hK => ?_; go_simp; refine hK _ _ ?_; clear hK K)
            refine wpList_nil ?_
            go_simp
            go_wp2_with fail
            exact bodyPost_ret (v := .tuple #[.agg #[.bool false, .int .u64 0, .int .u64 0, .int .i64 0], .int .i64 18]) (by simp [results, Tryd.results26, asAddr, hld.out, Result.andThen]) rfl ⟨rfl, hb9.out⟩
          · have hR2 := hR1.out
            have hN2 := hNu.out w7
            rw [hcl.out rfl] at hN2
            obtain ⟨D, hD⟩ : ∃ x, digL 10 m = x := ⟨_, rfl⟩
            rw [hD] at hN2 hR2
            have hcg := blk_cell hgm7
            clear hR1 hNu hcl
            replace hgm7 := hide hgm7
            replace hgS7 := hide hgS7
            replace hBS7 := hide hBS7
            replace hN2 := hide hN2
            replace hR2 := hide hR2
            replace hD := hide hD
            by_cases hDT : D = T
            · obtain rfl : R = some (⟨av, ah, al⟩, m) := by rw [hR2.out, if_pos ⟨rfl, hDT⟩]
              rw [hDT] at hN2
              clear hR2 hD
              replace hDT := hide hDT
              go_wp2_with fail
              refine hN2.out.mono ?_
              rintro e w8 ⟨rfl, hb8⟩
              have hgm8 := blk_below hb8 (by omega) hgm7.out
              have hgS8 := blk_below hb8 (by omega) hgS7.out
              have hBS8 := hBS7.out.trans (hb8.mono hBS7.out.size)
              clear hb8 hcg
              replace hgm8 := hide hgm8
              replace hgS8 := hide hgS8
              replace hBS8 := hide hBS8
              go_upto_region 15 with fail
              apply wp_region_lit
              refine wpl_ld rfl 45 (.tmp 9) rfl gp rfl _ _ hgm8.out Tryd.underlying45 rfl (by kernel_rfl) ?_
              refine wpl_st rfl 45 (.tmp 2) (.tmp 76) rfl (w.heap.size) 0 rfl (#[.bool av, .int .u64 (ah : Int), .int .u64 (al : Int), .int .i64 (m : Int)]) rfl hgS8.out (by simp) (by kernel_rfl) (p_one _ _ _ _) fun w9 hg9 g9 => ?_
              rw [putA_whole _ _ (by rfl)] at hg9
              have hb9 : Below (w.heap.size) w w9 := (hBS8.out).trans (below_grown g9 (by have := (hBS8.out).size; omega) (Nat.le_refl _))
              have hld : (loadVar 45 ⟨w.heap.size, 0, none⟩).run Tryd.prog w9 = .ok (.agg (#[.bool av, .int .u64 (ah : Int), .int .u64 (al : Int), .int .i64 (m : Int)])) w9 := by
                simpa using run_loadVar_mid w9 (w.heap.size) 0 45 (#[.bool av, .int .u64 (ah : Int), .int .u64 (al : Int), .int .i64 (m : Int)]).toList _ (blk_range hg9) Tryd.underlying45 rfl (by kernel_rfl)
              clear hg9 g9
              replace hld := hide hld
              replace hb9 := hide hb9
              iterate 1 (refine wpList_plain rfl fun K hK => ?_; go_simp; refine hK _ _ ?_; clear hK K)
              refine wpList_nil ?_
              go_simp
              go_wp2_with fail
              exact bodyPost_ret (v := .tuple #[.agg #[.bool av, .int .u64 (ah : Int), .int .u64 (al : Int), .int .i64 (m : Int)], .int .i64 0]) (by simp [results, Tryd.results26, asAddr, hld.out, Result.andThen]) rfl ⟨rfl, hb9.out⟩
            · obtain rfl : R = none := by rw [hR2.out, if_neg (fun h => hDT h.2)]
              have tq : ((str D).toList == (str T).toList) = false := by rw [str_toList, str_toList]; simpa using hDT
              clear hR2 hD
              replace hDT := hide hDT
              go_wp2_with fail
              refine hN2.out.mono ?_
              rintro e w8 ⟨rfl, hb8⟩
              have hgS8 := blk_below hb8 (by omega) hgS7.out
              have hBS8 := hBS7.out.trans (hb8.mono hBS7.out.size)
              clear hb8 hcg
              replace hgS8 := hide hgS8
              replace hBS8 := hide hBS8
              go_upto_region 14 with fail
              apply wp_region_lit
              iterate 1 (refine wpList_plain rfl fun K hK => ?_; go_simp; refine hK _ _ ?_; clear hK K)
              refine wpl_st rfl 45 (.tmp 2) (.tmp 75) rfl (w.heap.size) 0 rfl (#[.bool false, .int .u64 0, .int .u64 0, .int .i64 0]) rfl hgS8.out (by simp) (by kernel_rfl) (p_one _ _ _ _) fun w9 hg9 g9 => ?_
              rw [putA_whole _ _ (by rfl)] at hg9
              have hb9 : Below (w.heap.size) w w9 := (hBS8.out).trans (below_grown g9 (by have := (hBS8.out).size; omega) (Nat.le_refl _))
              have hld : (loadVar 45 ⟨w.heap.size, 0, none⟩).run Tryd.prog w9 = .ok (.agg (#[.bool false, .int .u64 0, .int .u64 0, .int .i64 0])) w9 := by
                simpa using run_loadVar_mid w9 (w.heap.size) 0 45 (#[.bool false, .int .u64 0, .int .u64 0, .int .i64 0]).toList _ (blk_range hg9) Tryd.underlying45 rfl (by kernel_rfl)
              clear hg9 g9
              replace hld := hide hld
              replace hb9 := hide hb9
              iterate 1 (refine wpList_plain rfl fun K hK => ?_; go_simp; refine hK _ _ ?_; clear hK K)
              refine wpList_nil ?_
              go_simp
              go_wp2_with fail
              exact bodyPost_ret (v := .tuple #[.agg #[.bool false, .int .u64 0, .int .u64 0, .int .i64 0], .int .i64 18]) (by simp [results, Tryd.results26, asAddr, hld.out, Result.andThen]) rfl ⟨rfl, hb9.out⟩
    · have hRn : R = none := by
        have h := pfxG_bad PF C T (by rw [hE.out, he0, hb1, hb2]; exact hBAD.out)
        rw [hR.out] at h
        exact h
      subst hRn
      clear hBAD hR hE he0 hb1 hb2
      go_upto_region 4 with fail
      apply wp_region_lit
      iterate 1 (refine wpList_plain rfl fun K hK => ?_; go_simp; refine hK _ _ ?_; clear hK K)
      refine wpl_st rfl 45 (.tmp 2) (.tmp 39) rfl (w.heap.size) 0 rfl (#[.bool false, .int .u64 0, .int .u64 0, .int .i64 0]) rfl hg.out (by simp) (by kernel_rfl) (p_one _ _ _ _) fun w9 hg9 g9 => ?_
      rw [putA_whole _ _ (by rfl)] at hg9
      have hb9 : Below (w.heap.size) w w9 := (hB.out).trans (below_grown g9 (by have := (hB.out).size; omega) (Nat.le_refl _))
      have hld : (loadVar 45 ⟨w.heap.size, 0, none⟩).run Tryd.prog w9 = .ok (.agg (#[.bool false, .int .u64 0, .int .u64 0, .int .i64 0])) w9 := by
        simpa using run_loadVar_mid w9 (w.heap.size) 0 45 (#[.bool false, .int .u64 0, .int .u64 0, .int .i64 0]).toList _ (blk_range hg9) Tryd.underlying45 rfl (by kernel_rfl)
      clear hg9 g9
      replace hld := hide hld
      replace hb9 := hide hb9
      iterate 1 (refine wpList_plain rfl fun K hK => ?_; go_simp; refine hK _ _ ?_; clear hK K)
      refine wpList_nil ?_
      go_simp
      go_wp2_with fail
      exact bodyPost_ret (v := .tuple #[.agg #[.bool false, .int .u64 0, .int .u64 0, .int .i64 0], .int .i64 18]) (by simp [results, Tryd.results26, asAddr, hld.out, Result.andThen]) rfl ⟨rfl, hb9.out⟩
end Addr05
end Go.Proofs.YtccmbnaakdffaaaDoor
/- slices: a row of prefixes in memory, as a function of places; the comparison by which pfx.Sort goes. No condition. -/
namespace Go.Proofs.YtccmbnaakdffaaaDoor
open Go.RowKit Go.ChangeShapes Go.WideShapes Go.ChangeAt Go.Deep
namespace Sort06
open Addr05 (Adr cmpI lessB Compare_any p_one)
/-- An element's cells. -/
def elA (x : El) : Array Value := #[.bool x.p.v6, .int .u64 (x.p.hi : Int), .int .u64 (x.p.lo : Int), .int .i64 x.i]
theorem putA_get (cs : Array Value) (o : Nat) (vs : List Value) (h : o + vs.length ≤ cs.size) (j : Nat) : (putA cs o vs)[j]? = if o ≤ j ∧ j < o + vs.length then vs[j - o]? else cs[j]? := by
  have hl : (cs.toList.take o).length = o := by rw [List.length_take, Array.length_toList]; omega
  unfold putA
  rw [List.getElem?_toArray]
  by_cases h1 : j < o
  · rw [if_neg (by omega), List.getElem?_append_left (by omega), List.getElem?_take, if_pos h1, Array.getElem?_toList]
  · rw [List.getElem?_append_right (by omega), hl]
    by_cases h2 : j < o + vs.length
    · rw [if_pos ⟨by omega, h2⟩, List.getElem?_append_left (by omega)]
    · rw [if_neg (by omega), List.getElem?_append_right (by omega), List.getElem?_drop, Array.getElem?_toList]
      congr 1
      omega
def upd1 (X : Nat → El) (i : Nat) (e : El) : Nat → El := fun k => if k = i then e else X k
theorem sw_upd (X : Nat → El) {i j : Nat} (h : i ≠ j) : upd1 (upd1 X i (X j)) j (X i) = sw X i j := by
  funext k
  unfold upd1 sw
  by_cases h1 : k = j
  · subst h1
    rw [if_pos rfl, if_neg (by omega), if_pos rfl]
  · rw [if_neg h1]
    by_cases h2 : k = i
    · rw [if_pos h2, if_pos h2]
    · rw [if_neg h2, if_neg h2, if_neg h1]
/-- A row of n elements in block g. -/
def RowF (w : World) (g n : Nat) (X : Nat → El) : Prop :=
  ∃ cs, w.heap[g]? = some (.cells cs 45 (0, 0)) ∧ n * 4 ≤ cs.size ∧ ∀ (k j : Nat) (u : Value), k < n → (elA (X k))[j]? = some u → cs[k * 4 + j]? = some u
section
variable {w w' : World} {g n : Nat} {X : Nat → El}
theorem RowF.lt (h : RowF w g n X) : g < w.heap.size := by
  obtain ⟨cs, h1, -⟩ := h
  exact blk_lt h1
theorem RowF.on (h : RowF w g n X) (hb : w'.heap[g]? = w.heap[g]?) : RowF w' g n X := by
  obtain ⟨cs, h1, h2⟩ := h
  exact ⟨cs, hb.trans h1, h2⟩
theorem RowF.below (h : RowF w g n X) (hb : Below w.heap.size w w') : RowF w' g n X := h.on (hb.block g h.lt)
theorem RowF.c0 (h : RowF w g n X) {k : Nat} (hk : k < n) : w.cell? ⟨g, k * 4, none⟩ = some (.bool (X k).p.v6) := by
  obtain ⟨cs, h1, -, h3⟩ := h
  rw [blk_cell h1 (k * 4)]
  exact h3 k 0 _ hk rfl
theorem RowF.c1 (h : RowF w g n X) {k : Nat} (hk : k < n) : w.cell? ⟨g, k * 4 + 1, none⟩ = some (.int .u64 ((X k).p.hi : Int)) := by
  obtain ⟨cs, h1, -, h3⟩ := h
  rw [blk_cell h1 (k * 4 + 1)]
  exact h3 k 1 _ hk rfl
theorem RowF.c2 (h : RowF w g n X) {k : Nat} (hk : k < n) : w.cell? ⟨g, k * 4 + 2, none⟩ = some (.int .u64 ((X k).p.lo : Int)) := by
  obtain ⟨cs, h1, -, h3⟩ := h
  rw [blk_cell h1 (k * 4 + 2)]
  exact h3 k 2 _ hk rfl
theorem RowF.c3 (h : RowF w g n X) {k : Nat} (hk : k < n) : w.cell? ⟨g, k * 4 + 3, none⟩ = some (.int .i64 (X k).i) := by
  obtain ⟨cs, h1, -, h3⟩ := h
  rw [blk_cell h1 (k * 4 + 3)]
  exact h3 k 3 _ hk rfl
/-- An element is stored. -/
theorem RowF.store (h : RowF w g n X) {i : Nat} (hi : i < n) (e : El) : ∃ cs, w.heap[g]? = some (.cells cs 45 (0, 0)) ∧ i * 4 + (elA e).size ≤ cs.size ∧
    ∀ w' : World, w'.heap[g]? = some (.cells (putA cs (i * 4) (elA e).toList) 45 (0, 0)) → RowF w' g n (upd1 X i e) := by
  obtain ⟨cs, h1, h2, h3⟩ := h
  have hs : (elA e).size = 4 := rfl
  have hm : (i + 1) * 4 ≤ n * 4 := Nat.mul_le_mul_right 4 hi
  have hle : i * 4 + (elA e).toList.length ≤ cs.size := by
    rw [Array.length_toList, hs]
    omega
  refine ⟨cs, h1, by rw [hs]; omega, fun w' hw => ⟨_, hw, by rw [putA_size _ _ _ hle]; exact h2, fun k j u hk hu => ?_⟩⟩
  have hj : j < 4 := by
    have := (Array.getElem?_eq_some_iff.1 hu).1
    exact this
  rw [putA_get _ _ _ hle, Array.length_toList, hs]
  unfold upd1 at hu
  by_cases hki : k = i
  · subst hki
    rw [if_pos rfl] at hu
    rw [if_pos (by omega), show k * 4 + j - k * 4 = j by omega, Array.getElem?_toList]
    exact hu
  · rw [if_neg hki] at hu
    rw [if_neg (by omega)]
    exact h3 k j u hk hu
end
/-! ### The comparison -/
def cmpE (x y : El) : Int := if cmpI x.p y.p = 0 then (if x.i < y.i then -1 else if y.i < x.i then 1 else 0) else cmpI x.p y.p
theorem cmpE_lt (x y : El) : cmpE x y < 0 ↔ kl x y := by
  obtain ⟨⟨xv, xh, xl⟩, xi, xt, x1, x2⟩ := x
  obtain ⟨⟨yv, yh, yl⟩, yi, yt, y1, y2⟩ := y
  dsimp only at x1 x2 y1 y2
  unfold cmpE kl El.N cmpI lessB
  dsimp only
  by_cases hv : xv = yv
  · subst hv
    by_cases hh : xh = yh
    · subst hh
      by_cases hl : xl = yl
      · subst hl
        rw [if_pos (show xv = xv ∧ xh = xh ∧ xl = xl from ⟨rfl, rfl, rfl⟩), if_pos rfl]
        split
        · constructor <;> intro <;> omega
        · split <;> (constructor <;> intro <;> omega)
      · rw [if_neg (show ¬ (xv = xv ∧ xh = xh ∧ xl = yl) from fun h => hl h.2.2), if_pos rfl]
        by_cases h : xl < yl
        · simp [h] <;> omega
        · simp [h] <;> omega
    · rw [if_neg (show ¬ (xv = xv ∧ xh = yh ∧ xl = yl) from fun h => hh h.2.1), if_pos rfl]
      by_cases h : xh < yh
      · simp [h] <;> omega
      · simp [h, hh] <;> omega
  · rw [if_neg (show ¬ (xv = yv ∧ xh = yh ∧ xl = yl) from fun h => hv h.1), if_neg hv]
    cases xv <;> cases yv
    · exact absurd rfl hv
    · simp <;> omega
    · simp <;> omega
    · exact absurd rfl hv
set_option maxRecDepth 20000 in
set_option maxHeartbeats 8000000 in
theorem cmp_any (x y : El) (w : World) : Calls Tryd.prog 58 #[.agg (elA x), .agg (elA y)] w fun e w' => e = .returned (.int .i64 (cmpE x y)) ∧ Below w.heap.size w w' := by
  have q := fun w => Compare_any x.p y.p w
  obtain ⟨c, hc⟩ : ∃ c, cmpI x.p y.p = c := ⟨_, rfl⟩
  rw [hc] at q
  have he : cmpE x y = if c = 0 then (if x.i < y.i then -1 else if y.i < x.i then 1 else 0) else c := by unfold cmpE; rw [hc]
  obtain ⟨E, hE⟩ : ∃ E, cmpE x y = E := ⟨_, rfl⟩
  rw [hE] at he ⊢
  unfold elA
  obtain ⟨⟨xv, xh, xl⟩, xi, xt, x1, x2⟩ := x
  obtain ⟨⟨yv, yh, yl⟩, yi, yt, y1, y2⟩ := y
  dsimp only at he q ⊢
  clear hc hE
  obtain ⟨w1, hw1⟩ : ∃ w1, w.alloc (.cells #[.bool xv, .int .u64 (xh : Int), .int .u64 (xl : Int), .int .i64 xi] 45) = w1 := ⟨_, rfl⟩
  have hs1 : w1.heap.size = w.heap.size + 1 := by rw [← hw1]; simp
  obtain ⟨w2, hw2⟩ : ∃ w2, w1.alloc (.cells #[.bool yv, .int .u64 (yh : Int), .int .u64 (yl : Int), .int .i64 yi] 45) = w2 := ⟨_, rfl⟩
  have hB1 : Below w.heap.size w w1 := hw1 ▸ (Below.refl _ _).alloc (Nat.le_refl _) _
  have hb2 : Below w1.heap.size w1 w2 := hw2 ▸ (Below.refl _ _).alloc (Nat.le_refl _) _
  have hB2 := hB1.trans (hb2.mono hB1.size)
  have hg1 : w1.heap[w.heap.size]? = some (.cells #[.bool xv, .int .u64 (xh : Int), .int .u64 (xl : Int), .int .i64 xi] 45 (0, 0)) := hw1 ▸ blk_new _ _ _
  have hgx := blk_below hb2 (by omega) hg1
  have hgy : w2.heap[w1.heap.size]? = some (.cells #[.bool yv, .int .u64 (yh : Int), .int .u64 (yl : Int), .int .i64 yi] 45 (0, 0)) := hw2 ▸ blk_new _ _ _
  have hs2 : w2.heap.size = w1.heap.size + 1 := by rw [← hw2]; simp
  rw [hs1] at hgy
  have cx := blk_cell hgx
  have cy := blk_cell hgy
  replace hB2 := hide hB2
  replace hgx := hide hgx
  replace hgy := hide hgy
  replace q := hide q
  go_enter Tryd.func58, Tryd.ntmps58
  go_upto_region 1 with fail
  clear hw1 hw2
  go_wp2_with fail
  refine (q.out w2).mono ?_
  rintro e w3 ⟨rfl, hb3⟩
  have hB3 := hB2.out.trans (hb3.mono hB2.out.size)
  have hgx3 := blk_below hb3 (by omega) hgx.out
  have hgy3 := blk_below hb3 (by omega) hgy.out
  clear cx cy
  have cx := blk_cell hgx3
  have cy := blk_cell hgy3
  clear hb3 hgx3 hgy3 q
  by_cases h0 : c = 0
  · subst h0
    rw [if_pos rfl] at he
    by_cases h1 : xi < yi
    · rw [if_pos h1] at he
      subst he
      replace hB3 := hide hB3
      go_wp2_with fail
      go_ret
      exact ⟨rfl, hB3.out⟩
    · rw [if_neg h1] at he
      by_cases h2 : yi < xi
      · rw [if_pos h2] at he
        subst he
        replace hB3 := hide hB3
        go_wp2_with fail
        go_ret
        exact ⟨rfl, hB3.out⟩
      · rw [if_neg h2] at he
        subst he
        replace hB3 := hide hB3
        go_wp2_with fail
        go_ret
        exact ⟨rfl, hB3.out⟩
  · rw [if_neg h0] at he
    subst he
    replace hB3 := hide hB3
    go_wp2_with fail
    go_ret
    exact ⟨rfl, hB3.out⟩
end Sort06
end Go.Proofs.YtccmbnaakdffaaaDoor
/- slices: swapRange, on a row of prefixes. Conditions: the ranges lie in the row, apart. -/
namespace Go.Proofs.YtccmbnaakdffaaaDoor
open Go.RowKit Go.ChangeShapes Go.WideShapes Go.ChangeAt Go.Deep
namespace Sort06
open Addr05 (Adr p_one)
theorem elA_one (x : El) : (elA x).all (·.oneCell') = true := p_one _ _ _ _
set_option maxRecDepth 20000 in
set_option maxHeartbeats 8000000 in
theorem swapRange_any (g n c a b d : Nat) (X : Nat → El) (hab : a + d ≤ b) (hb : b + d ≤ n) (hn : n ≤ 1099511627776) (cv : Value) (w : World) (h : RowF w g n X) :
    Calls Tryd.prog 89 #[.slice (some ⟨g, 0, none⟩) n c, .int .i64 (a : Int), .int .i64 (b : Int), .int .i64 (d : Int), cv] w fun e w' => e = .returned (.tuple #[]) ∧ RowF w' g n (swF X a b d) ∧ w.grownBy w' (some g) := by
  replace h := hide h
  go_enter Tryd.func89, Tryd.ntmps89
  go_wp2_with fail
  go_loopw [10] (fun iv wr => ∃ i : Nat, i ≤ d ∧ iv = .int .i64 (i : Int) ∧ RowF wr g n (swF X a b i) ∧ w.grownBy wr (some g)) (fun iv _ => d - (intOf iv).toNat)
  case atStart => exact ⟨0, by omega, rfl, by rw [swF_zero]; exact h.out, grown_refl _ _⟩
  case round =>
    obtain ⟨i, hi, rfl, hr, hg⟩ := hrel
    by_cases hid : i < d
    · have hlt : (i : Int) < (d : Int) := by omega
      have wa : IntKind.i64.wrap ((a : Int) + (i : Int)) = ((a + i : Nat) : Int) := by rw [wraps62 _ (by omega) (by omega)]; omega
      have wb : IntKind.i64.wrap ((b : Int) + (i : Int)) = ((b + i : Nat) : Int) := by rw [wraps62 _ (by omega) (by omega)]; omega
      have i1 : a + i < n := by omega
      have i2 : b + i < n := by omega
      have i3 : ((a + i : Nat) : Int) < (n : Int) := by omega
      have i4 : ((b + i : Nat) : Int) < (n : Int) := by omega
      have hs := swF_succ X a b i (by omega)
      obtain ⟨Y, hY⟩ : ∃ Y, swF X a b i = Y := ⟨_, rfl⟩
      rw [hY] at hr hs
      clear hY
      obtain ⟨p, hp⟩ : ∃ p, a + i = p := ⟨_, rfl⟩
      obtain ⟨q, hq⟩ : ∃ q, b + i = q := ⟨_, rfl⟩
      have hpq : p ≠ q := by omega
      rw [hp] at wa i1 i3 hs
      rw [hq] at wb i2 i4 hs
      clear hp hq
      replace hr := hide hr
      replace hg := hide hg
      replace hs := hide hs
      go_upto_region 3 with fail
      refine wp_region_W [21, 23] wr.heap.size (fun j => j = g) (by as_aux_lemma => kernel_rfl) ?_
      intro wd hbd
      have hRd := hr.out.below hbd
      have hgd : w.grownBy wd (some g) := grown_trans' _ _ _ hg.out (grown_of_below hbd)
      have hzd := hbd.size
      have hgw := hr.out.lt
      have kR := fun (l : KeptSW wr.heap.size (fun _ => False) wd) => hRd.on (l.hk.block g hgw id)
      have p0 := fun l => (kR l).c0 i1
      have p1 := fun l => (kR l).c1 i1
      have p2 := fun l => (kR l).c2 i1
      have p3 := fun l => (kR l).c3 i1
      have q0 := fun l => (kR l).c0 i2
      have q1 := fun l => (kR l).c1 i2
      have q2 := fun l => (kR l).c2 i2
      have q3 := fun l => (kR l).c3 i2
      clear kR
      replace hRd := hide hRd
      replace hgd := hide hgd
      refine wpWH_seg [21, 23] wr.heap.size (fun j => j = g) 0 4 (fuel := 20) (by as_aux_lemma => kernel_rfl) (fun d _ _ _ _ h => by cases d <;> exact h) (by as_aux_lemma => kernel_rfl) (by as_aux_lemma => kernel_rfl) (by as_aux_lemma => kernel_rfl) ?_
      simp only [List.drop_zero, List.take_succ_cons, List.take_zero]
      iterate 4 (refine wpQS_step (fun K hK => ?_); go_simp; refine hK _ ?_; clear hK K)
      refine wpQF_nil ?_
      refine wpWS_seg [21, 23] wr.heap.size (fun j => j = g) 4 4 (fuel := 16) (by as_aux_lemma => kernel_rfl) (fun d _ _ _ _ h => by cases d <;> exact h) (by as_aux_lemma => kernel_rfl) (by as_aux_lemma => kernel_rfl) ?_
      simp only [List.drop_succ_cons, List.drop_zero, List.take_succ_cons, List.take_zero]
      iterate 4 (refine wpQS_step (fun K hK => ?_); go_simp; refine hK _ ?_; clear hK K)
      refine wpQF_nil ?_
      refine wpWH_seg [21, 23] wr.heap.size (fun j => j = g) 8 6 (fuel := 10) (by as_aux_lemma => kernel_rfl) (fun d _ _ _ _ h => by cases d <;> exact h) (by as_aux_lemma => kernel_rfl) (by as_aux_lemma => kernel_rfl) (by as_aux_lemma => kernel_rfl) ?_
      simp only [List.drop_succ_cons, List.drop_zero, List.take_succ_cons, List.take_zero]
      iterate 6 (refine wpQS_step (fun K hK => ?_); go_simp; refine hK _ ?_; clear hK K)
      refine wpQF_nil ?_
      refine wpWS_seg [21, 23] wr.heap.size (fun j => j = g) 14 5 (fuel := 5) (by as_aux_lemma => kernel_rfl) (fun d _ _ _ _ h => by cases d <;> exact h) (by as_aux_lemma => kernel_rfl) (by as_aux_lemma => kernel_rfl) ?_
      simp only [List.drop_succ_cons, List.drop_zero, List.take_succ_cons, List.take_zero]
      iterate 5 (refine wpQS_step (fun K hK => ?_); go_simp; refine hK _ ?_; clear hK K)
      refine wpQF_nil ?_
      refine wpWH_seg [21, 23] wr.heap.size (fun j => j = g) 19 1 (fuel := 4) (by as_aux_lemma => kernel_rfl) (fun d _ _ _ _ h => by cases d <;> exact h) (by as_aux_lemma => kernel_rfl) (by as_aux_lemma => kernel_rfl) (by as_aux_lemma => kernel_rfl) ?_
      simp only [List.drop_succ_cons, List.drop_zero, List.take_succ_cons, List.take_zero]
      iterate 1 (refine wpQS_step (fun K hK => ?_); go_simp; refine hK _ ?_; clear hK K)
      refine wpQF_nil ?_
      clear p0 p1 p2 p3 q0 q1 q2 q3
      refine wpW_step 20 rfl (by as_aux_lemma => kernel_rfl) (fun K hK => ?_)
      go_simp
      refine hK _ _ (relS_refl _ _ _ _ _) ?_
      clear hK K
      obtain ⟨cs, hcs, hcl, hput⟩ := hRd.out.store i1 (Y q)
      refine wpW_step 21 rfl (by as_aux_lemma => kernel_rfl) (fun K hK => ?_)
      rw [if_pos (by unfold Region.wanted; rfl)]
      refine wp_st 45 (.tmp 36) (.tmp 29) rfl g (p * 4) rfl (elA (Y q)) rfl hcs hcl (by kernel_rfl) (elA_one _) fun w21 h1 g1 => hK _ _ (relS_of rfl ⟨g1.os, g1.tape, g1.output, g1.size, fun j hj hne => g1.block j (by omega) (fun e => hne (by cases e; rfl))⟩) ?_
      clear hK K
      have hR21 := hput w21 h1
      have hg21 := grown_trans' _ _ _ hgd.out g1
      have hz21 := g1.size
      clear hcs hcl hput h1 g1 hRd hgd
      replace hR21 := hide hR21
      replace hg21 := hide hg21
      refine wpW_step 22 rfl (by as_aux_lemma => kernel_rfl) (fun K hK => ?_)
      go_simp
      refine hK _ _ (relS_refl _ _ _ _ _) ?_
      clear hK K
      obtain ⟨cs2, hcs2, hcl2, hput2⟩ := hR21.out.store i2 (Y p)
      refine wpW_step 23 rfl (by as_aux_lemma => kernel_rfl) (fun K hK => ?_)
      rw [if_pos (by unfold Region.wanted; rfl)]
      refine wp_st 45 (.tmp 37) (.tmp 35) rfl g (q * 4) rfl (elA (Y p)) rfl hcs2 hcl2 (by kernel_rfl) (elA_one _) fun w23 h1 g1 => hK _ _ (relS_of rfl ⟨g1.os, g1.tape, g1.output, g1.size, fun j hj hne => g1.block j (by omega) (fun e => hne (by cases e; rfl))⟩) ?_
      clear hK K
      have hR23 := hput2 w23 h1
      rw [sw_upd _ hpq] at hR23
      have hg23 := grown_trans' _ _ _ hg21.out g1
      clear hcs2 hcl2 hput2 h1 g1 hR21 hg21
      refine wpW_done (by as_aux_lemma => kernel_rfl) ?_ _
      rw [hs.out] at hR23
      replace hR23 := hide hR23
      replace hg23 := hide hg23
      go_wp2_with fail
      exact ⟨⟨i + 1, by omega, by first | rfl | go_num, hR23.out, hg23.out⟩, by simp only [intOf]; omega⟩
    · obtain rfl : i = d := by omega
      have hlt : ((i : Int) < (i : Int)) = False := by simp
      replace hr := hide hr
      replace hg := hide hg
      go_wp2_with fail
      refine bodyPost_end (v := .tuple #[]) (by simp [results, Tryd.results89, go_sem]) rfl ⟨rfl, hr.out, hg.out⟩
end Sort06
end Go.Proofs.YtccmbnaakdffaaaDoor
/- slices: rotate, on a row of prefixes. Conditions: neither part is empty. -/
namespace Go.Proofs.YtccmbnaakdffaaaDoor
open Go.RowKit Go.ChangeShapes Go.WideShapes Go.ChangeAt Go.Deep
namespace Sort06
set_option maxRecDepth 20000 in
set_option maxHeartbeats 8000000 in
theorem rotate_any (g n c a m b : Nat) (X : Nat → El) (h1 : a < m) (h2 : m < b) (hb : b ≤ n) (hn : n ≤ 1099511627776) (cv : Value) (w : World) (h : RowF w g n X) :
    Calls Tryd.prog 83 #[.slice (some ⟨g, 0, none⟩) n c, .int .i64 (a : Int), .int .i64 (m : Int), .int .i64 (b : Int), cv] w fun e w' => e = .returned (.tuple #[]) ∧ RowF w' g n (rot X a m b) ∧ w.grownBy w' (some g) := by
  have wi : IntKind.i64.wrap ((m : Int) - (a : Int)) = ((m - a : Nat) : Int) := by rw [wraps62 _ (by omega) (by omega)]; omega
  have wj : IntKind.i64.wrap ((b : Int) - (m : Int)) = ((b - m : Nat) : Int) := by rw [wraps62 _ (by omega) (by omega)]; omega
  have hst : ∃ i j : Nat, m - a = i ∧ b - m = j := ⟨_, _, rfl, rfl⟩
  obtain ⟨i0, j0, hi0, hj0⟩ := hst
  rw [hi0] at wi
  rw [hj0] at wj
  obtain ⟨Z, hZ⟩ : ∃ Z, rot X a m b = Z := ⟨_, rfl⟩
  rw [hZ]
  have hZ0 : rot X (m - i0) m (m + j0) = Z := by rw [← hZ]; congr 1 <;> omega
  replace h := hide h
  replace hZ0 := hide hZ0
  go_enter Tryd.func83, Tryd.ntmps83
  go_wp2_with fail
  go_loopw [10, 11] (fun iv jv wr => ∃ (i j : Nat) (Y : Nat → El), 0 < i ∧ 0 < j ∧ i ≤ m ∧ m + j ≤ n ∧ iv = .int .i64 (i : Int) ∧ jv = .int .i64 (j : Int) ∧ RowF wr g n Y ∧ rot Y (m - i) m (m + j) = Z ∧ w.grownBy wr (some g)) (fun iv jv _ => (intOf iv).toNat + (intOf jv).toNat)
  case atStart => exact ⟨i0, j0, X, by omega, by omega, by omega, by omega, by first | rfl | go_num, by first | rfl | go_num, h.out, hZ0.out, grown_refl _ _⟩
  case round =>
    obtain ⟨i, j, Y, hi, hj, him, hjn, rfl, rfl, hr, hro, hg⟩ := hrel
    have wmi : IntKind.i64.wrap ((m : Int) - (i : Int)) = ((m - i : Nat) : Int) := by rw [wraps62 _ (by omega) (by omega)]; omega
    rcases Nat.lt_trichotomy i j with hij | hij | hij
    · have t1 : ((i : Int) != (j : Int)) = true := by simp; omega
      have t2 : ¬ (j : Int) < (i : Int) := by omega
      have wmj : IntKind.i64.wrap ((m : Int) + (j : Int)) = ((m + j : Nat) : Int) := by rw [wraps62 _ (by omega) (by omega)]; omega
      have wmji : IntKind.i64.wrap (((m + j : Nat) : Int) - (i : Int)) = ((m + j - i : Nat) : Int) := by rw [wraps62 _ (by omega) (by omega)]; omega
      have wji : IntKind.i64.wrap ((j : Int) - (i : Int)) = ((j - i : Nat) : Int) := by rw [wraps62 _ (by omega) (by omega)]; omega
      have q := swapRange_any g n c (m - i) (m + j - i) i Y (by omega) (by omega) hn cv wr hr
      have hs := rot_small Y m i j hij him
      rw [hro] at hs
      obtain ⟨mi, hmi⟩ : ∃ x, m - i = x := ⟨_, rfl⟩
      obtain ⟨mj, hmj⟩ : ∃ x, m + j = x := ⟨_, rfl⟩
      obtain ⟨mji, hmji⟩ : ∃ x, mj - i = x := ⟨_, rfl⟩
      obtain ⟨ji, hji⟩ : ∃ x, j - i = x := ⟨_, rfl⟩
      rw [hmj, hmji, hmi] at q
      rw [hmi] at wmi
      rw [hmj] at wmj wmji
      rw [hmji] at wmji
      rw [hji] at wji
      replace q := hide q
      replace hs := hide hs
      replace hg := hide hg
      replace hmi := hide hmi
      replace hmj := hide hmj
      replace hmji := hide hmji
      replace hji := hide hji
      go_wp2_with fail
      refine q.out.mono ?_
      rintro e w2 ⟨rfl, hr2, hg2⟩
      have hg3 := grown_trans' _ _ _ hg.out hg2
      have hs2 : rot (swF Y mi mji i) (m - i) m (m + ji) = Z := by
        have h := hs.out
        rw [← hmi.out, ← hmji.out, ← hmj.out, ← hji.out]
        rw [show m + (j - i) = m + j - i by omega]
        exact h
      clear q hr hg2 hg hro hs
      have hjp : 0 < ji := by rw [← hji.out]; omega
      have hjn2 : m + ji ≤ n := by rw [← hji.out]; omega
      have hms : i + ji < i + j := by rw [← hji.out]; omega
      replace hr2 := hide hr2
      replace hg3 := hide hg3
      replace hs2 := hide hs2
      go_wp2_with fail
      exact ⟨⟨i, ji, _, hi, hjp, him, hjn2, rfl, by first | rfl | go_num, hr2.out, hs2.out, hg3.out⟩, by simp only [intOf, Int.toNat_natCast]; omega⟩
    · subst hij
      have q := swapRange_any g n c (m - i) m i Y (by omega) (by omega) hn cv wr hr
      have hs := rot_same Y m i him
      rw [hro] at hs
      rw [hs] at q
      obtain ⟨mi, hmi⟩ : ∃ x, m - i = x := ⟨_, rfl⟩
      rw [hmi] at q wmi
      clear hs hmi
      replace q := hide q
      replace hg := hide hg
      go_wp2_with fail
      refine q.out.mono ?_
      rintro e w2 ⟨rfl, hr2, hg2⟩
      have hg3 := grown_trans' _ _ _ hg.out hg2
      clear q hr hg2 hg hro
      replace hr2 := hide hr2
      replace hg3 := hide hg3
      go_wp2_with fail
      refine bodyPost_end (v := .tuple #[]) (by simp [results, Tryd.results83, go_sem]) rfl ⟨rfl, hr2.out, hg3.out⟩
    · have t1 : ((i : Int) != (j : Int)) = true := by simp; omega
      have t2 : (j : Int) < (i : Int) := by omega
      have wij : IntKind.i64.wrap ((i : Int) - (j : Int)) = ((i - j : Nat) : Int) := by rw [wraps62 _ (by omega) (by omega)]; omega
      have q := swapRange_any g n c (m - i) m j Y (by omega) (by omega) hn cv wr hr
      have hs := rot_big Y m i j hij him
      rw [hro] at hs
      obtain ⟨mi, hmi⟩ : ∃ x, m - i = x := ⟨_, rfl⟩
      obtain ⟨ij, hji⟩ : ∃ x, i - j = x := ⟨_, rfl⟩
      rw [hmi] at q wmi
      rw [hji] at wij
      replace q := hide q
      replace hs := hide hs
      replace hg := hide hg
      replace hmi := hide hmi
      replace hji := hide hji
      go_wp2_with fail
      refine q.out.mono ?_
      rintro e w2 ⟨rfl, hr2, hg2⟩
      have hg3 := grown_trans' _ _ _ hg.out hg2
      have hs2 : rot (swF Y mi m j) (m - ij) m (m + j) = Z := by
        have h := hs.out
        rw [← hmi.out, ← hji.out]
        rw [show m - (i - j) = m - i + j by omega]
        exact h
      clear q hr hg2 hg hro hs
      have hjp : 0 < ij := by rw [← hji.out]; omega
      have hjn2 : ij ≤ m := by rw [← hji.out]; omega
      have hms : ij + j < i + j := by rw [← hji.out]; omega
      replace hr2 := hide hr2
      replace hg3 := hide hg3
      replace hs2 := hide hs2
      go_wp2_with fail
      exact ⟨⟨ij, j, _, hjp, hj, hjn2, hjn, by first | rfl | go_num, rfl, hr2.out, hs2.out, hg3.out⟩, by simp only [intOf, Int.toNat_natCast]; omega⟩
end Sort06
end Go.Proofs.YtccmbnaakdffaaaDoor
