/- pfx: Parse: the prefix that a text is. Condition: the cell of bytealg.MaxLen, a text of at most 80 bytes. -/
import Derived.Test.YtbcicbiphgeghaaDoorQConfParses9
import Derived.Test.YtbcicbiphgeghaaDoorQConfParses8
import Derived.Test.YtbcicbiphgeghaaDoorQConfParses2
import Derived.Test.YtbcicbiphgeghaaDoorQConfParses6
import Derived.HandedShaped
import Derived.LaidMore
import Derived.Lay
import Derived.Lib.ConvBytes
import Derived.Maps.Own
import Derived.Maps.OwnOps
import Derived.Maps.OwnSet
import Derived.Maps.Views
import Derived.OpenShut
import Derived.Shelf.Vars
import Derived.Stop.Joined
import Derived.StringKeys
namespace Go.Proofs.YtbcicbiphgeghaaDoor
open Go.RowKit Go.ChangeShapes Go.WideShapes Go.ChangeAt Go.Deep
namespace Addr05
def pZ : Array Value := #[.bool false, .int .u64 0, .int .u64 0, .int .i64 0]
def pArrO : Option (Adr × Nat) → Array Value
  | none => #[.bool false, .int .u64 0, .int .u64 0, .int .i64 0]
  | some p => #[.bool p.1.v6, .int .u64 (p.1.hi : Int), .int .u64 (p.1.lo : Int), .int .i64 (p.2 : Int)]
theorem p_one (v6 : Bool) (hi lo i : Int) : (#[.bool v6, .int .u64 hi, .int .u64 lo, .int .i64 i] : Array Value).all (·.oneCell') = true := all_oneCell_toArray (by
  intro v hv
  simp only [List.mem_cons, List.not_mem_nil, or_false] at hv
  rcases hv with rfl | rfl | rfl | rfl <;> rfl)
theorem alloc_pfx (o : Oper) (h : o.op = .alloc 28) (ρ : Operand → Value) (w : World) : (execOp ρ o).run Tryd.prog w = .ok (.value (.pointer (some ⟨w.heap.size, 0, none⟩))) (w.alloc (.cells #[.bool false, .int .u64 0, .int .u64 0, .int .i64 0] 28)) := by
  obtain ⟨d, op, t, ps, af, g⟩ := o
  dsimp only at h
  subst h
  kernel_rfl
/-- A text's bytes, in a new row. -/
theorem bytes_any (s : List UInt8) (w : World) : ∃ w' c, (convert 9 173 (.string (str s))).run Tryd.prog w = .ok (.slice (some ⟨w.heap.size, 0, none⟩) s.length c) w' ∧ IsB w' w'.heap.size (some ⟨w.heap.size, 0, none⟩) s.length s ∧ Below w.heap.size w w' := by
  have h := Lib.run_convert_string_bytes (P := Tryd.prog) w 9 173 5 (str s) Tryd.underlying9 Tryd.underlying173 Tryd.underlying5
  rw [size_str] at h
  refine ⟨_, _, h, ⟨rfl, fun hn => ⟨_, 0, rfl, by rw [Lib.bytesWorld_size]; omega, fun j hj => ?_⟩⟩, ?_⟩
  · rw [Nat.zero_add, Lib.bytesWorld_cell w _ (str s) j (by rw [size_str]; exact hj), str_list]
    unfold u8v
    rw [List.getD_eq_getElem?_getD, List.getElem?_eq_getElem hj]
    rfl
  · exact ⟨rfl, rfl, rfl, by rw [Lib.bytesWorld_size]; omega, fun j hj => Lib.bytesWorld_at_old _ _ _ j hj⟩
/-- What is made of the parts of a text. -/
def pfxG (r : Option Adr) (c : Bool) (T : List UInt8) : Option (Adr × Nat) :=
  match r with
  | none => none
  | some a => if c = false ∨ T.length < 1 ∨ 3 < T.length then none else match tailF 0 T with
    | none => none
    | some n => if a.rightP n = true ∧ digL 10 n = T then some (a, n) else none
theorem pfxF_G (s : List UInt8) : pfxF s = pfxG (parseF (Lib.cut s [47]).1) (Lib.cut s [47]).2.2 (Lib.cut s [47]).2.1 := by
  unfold pfxF pfxG
  rfl
def goodG (a : Adr) (T : List UInt8) : Option Nat → Option (Adr × Nat)
  | none => none
  | some n => if a.rightP n = true ∧ digL 10 n = T then some (a, n) else none
theorem rightP_nat (a : Adr) (m : Nat) : rightP a (m : Int) = a.rightP m := by
  unfold rightP
  rw [decide_eq_true (by omega), Bool.true_and, Int.toNat_natCast]
theorem clamp128 (a : Adr) (m : Nat) (h : a.rightP m = true) : (min (max (m : Int) 0) 128).toNat = m := by
  have h1 := (rightP_w a m h).2.1
  have h2 := a.w_le
  omega
theorem pfxG_bad (r : Option Adr) (C : Bool) (T : List UInt8) (h : (!C || (errP r != 0) || decide ((T.length : Int) < 1) || decide ((3 : Int) < (T.length : Int))) = true) : pfxG r C T = none := by
  unfold pfxG
  cases r with
  | none => rfl
  | some a =>
    dsimp only
    rw [if_pos]
    simp only [Bool.or_eq_true, Bool.not_eq_true', bne_iff_ne, decide_eq_true_eq] at h
    rcases h with ((h | h) | h) | h
    · exact .inl h
    · exact absurd rfl h
    · exact .inr (.inl (by omega))
    · exact .inr (.inr (by omega))
theorem pfxG_good (r : Option Adr) (C : Bool) (T : List UInt8) (h : (!C || (errP r != 0) || decide ((T.length : Int) < 1) || decide ((3 : Int) < (T.length : Int))) = false) : ∃ a, r = some a ∧ pfxG r C T = goodG a T (tailF 0 T) ∧ 1 ≤ T.length ∧ T.length ≤ 3 := by
  simp only [Bool.or_eq_false_iff, Bool.not_eq_false', decide_eq_false_iff_not] at h
  obtain ⟨⟨⟨h1, h2⟩, h3⟩, h4⟩ := h
  cases r with
  | none => cases h2
  | some a =>
    refine ⟨a, rfl, ?_, by omega, by omega⟩
    unfold pfxG goodG
    dsimp only
    rw [if_neg (by
      rintro (h | h | h)
      · rw [h1] at h; cases h
      · omega
      · omega)]
set_option maxRecDepth 20000 in
set_option maxHeartbeats 8000000 in
theorem pParse_any (s : List UInt8) (hs : s.length ≤ 65536) (w : World) (hm : MaxAt w) :
    Calls Tryd.prog 52 #[.string (str s)] w fun e w' => e = .returned (.tuple #[.agg (pArrO (pfxF s)), .int .i64 (if (pfxF s).isSome then 0 else 18)]) ∧ Below w.heap.size w w' := by
  rw [pfxF_G]
  obtain ⟨w1, hw1⟩ : ∃ w1, w.alloc (.cells #[.bool false, .int .u64 0, .int .u64 0, .int .i64 0] 28) = w1 := ⟨_, rfl⟩
  have hB : Below w.heap.size w w1 := hw1 ▸ (Below.refl _ _).alloc (Nat.le_refl _) _
  have hg : w1.heap[w.heap.size]? = some (.cells #[.bool false, .int .u64 0, .int .u64 0, .int .i64 0] 28 (0, 0)) := hw1 ▸ blk_new _ _ _
  have hm1 := hm.below hB
  have hcut := cut_any [47] s hs w1 hm1
  have hcl := cut_len s [47]
  obtain ⟨H, hH⟩ : ∃ x, (Lib.cut s [47]).1 = x := ⟨_, rfl⟩
  obtain ⟨T, hT⟩ : ∃ x, (Lib.cut s [47]).2.1 = x := ⟨_, rfl⟩
  obtain ⟨C, hC⟩ : ∃ x, (Lib.cut s [47]).2.2 = x := ⟨_, rfl⟩
  rw [hH, hT, hC] at hcut ⊢
  rw [hH, hT] at hcl
  have hP := Parse_any H (by omega)
  have hTl : T.length ≤ 65536 := by omega
  have hps := fun a h => (parse_some H a h).2.1
  obtain ⟨PF, hPF⟩ : ∃ x, parseF H = x := ⟨_, rfl⟩
  rw [hPF] at hP hps ⊢
  obtain ⟨R, hR⟩ : ∃ x, pfxG PF C T = x := ⟨_, rfl⟩
  rw [hR]
  have hzT : (str T).size = T.length := size_str T
  clear hH hT hC hPF hcl hm
  obtain ⟨ar, har⟩ : ∃ a : Adr, adrP PF = a.arr := by
    cases PF with
    | none => exact ⟨⟨false, 0, 0⟩, rfl⟩
    | some a => exact ⟨a, rfl⟩
  obtain ⟨E, hE⟩ : ∃ x, errP PF = x := ⟨_, rfl⟩
  rw [har, hE] at hP
  replace hB := hide hB
  replace hg := hide hg
  replace hm1 := hide hm1
  replace hcut := hide hcut
  replace hP := hide hP
  replace hps := hide hps
  replace hR := hide hR
  replace har := hide har
  replace hE := hide hE
  go_enter Tryd.func52, Tryd.ntmps52
  go_wp2_with fail
  clear hw1
  refine hcut.out.mono ?_
  rintro e w2 ⟨rfl, hb2⟩
  replace hB := hide (hB.out.trans (hb2.mono hB.out.size))
  replace hg := hide (blk_on hb2 hg.out)
  replace hm1 := hide (hm1.out.below hb2)
  clear hb2
  clear hcut
  have hP2 := hP.out w2 hm1.out
  obtain ⟨av, ah, al⟩ := ar
  unfold Adr.arr at hP2
  clear hP
  replace hP2 := hide hP2
  go_upto_region 2 with fail
  apply wp_region_lit
  iterate 1 (refine wpList_plain rfl fun K hK => ?_; go_simp; refine hK _ _ ?_; clear hK K)
  refine wpList_plain rfl fun K hK => ?_
  go_simp
  refine (hP2.out).mono ?_
  rintro e w3 ⟨rfl, hb3⟩
  replace hB := hide (hB.out.trans (hb3.mono hB.out.size))
  replace hg := hide (blk_on hb3 hg.out)
  replace hm1 := hide (hm1.out.below hb3)
  clear hb3
  clear hP2
  go_simp
  refine hK _ _ ?_
  clear hK K
  iterate 3 (refine wpList_plain rfl fun K hK => ?_; go_simp; refine hK _ _ ?_; clear hK K)
  refine wpl_new rfl rfl 26 _ (alloc_adr _ rfl) 7 rfl (.tmp 21) rfl _ (fun _ => rfl) (fun _ => rfl) rfl (by kernel_rfl) (adr_one av (ah : Int) (al : Int)) ?_
  intro w4 hga hb4 hz4
  replace hB := hide (hB.out.trans (hb4.mono hB.out.size))
  replace hg := hide (blk_on hb4 hg.out)
  replace hm1 := hide (hm1.out.below hb4)
  clear hb4
  replace hga := hide hga
  iterate 1 (refine wpList_plain rfl fun K hK => ?_; go_simp; refine hK _ _ ?_; clear hK K)
  refine wpList_nil ?_
  go_simp
  obtain ⟨e0, he0⟩ : ∃ b, (E != 0) = b := ⟨_, rfl⟩
  obtain ⟨b1, hb1⟩ : ∃ b, decide ((T.length : Int) < 1) = b := ⟨_, rfl⟩
  obtain ⟨b2, hb2⟩ : ∃ b, decide ((3 : Int) < (T.length : Int)) = b := ⟨_, rfl⟩
  obtain ⟨BAD, hBAD⟩ : ∃ b, (!C || e0 || b1 || b2) = b := ⟨_, rfl⟩
  replace hBAD := hide hBAD
  go_upto_region 3 with fail
  go_cut [38] (fun bv wx => bv = .bool BAD ∧ w4 = wx)
  case first =>
    have hbad := hBAD.out
    clear hBAD
    replace hbad := hide hbad
    cases C
    · go_wp2_with fail
      go_meet
      exact ⟨by rw [← hbad.out]; rfl, rfl⟩
    cases e0
    · cases b1
      · go_wp2_with fail
        go_meet
        exact ⟨by rw [← hbad.out]; rfl, rfl⟩
      · go_wp2_with fail
        go_meet
        exact ⟨by rw [← hbad.out]; rfl, rfl⟩
    · go_wp2_with fail
      go_meet
      exact ⟨by rw [← hbad.out]; rfl, rfl⟩
  case rest =>
    obtain ⟨rfl, rfl⟩ := hcut
    cases BAD
    · obtain ⟨a, hPa, hRg, ht1, ht3⟩ : ∃ a, PF = some a ∧ R = goodG a T (tailF 0 T) ∧ 1 ≤ T.length ∧ T.length ≤ 3 := by
        have h := pfxG_good PF C T (by rw [hE.out, he0, hb1, hb2]; exact hBAD.out)
        rw [hR.out] at h
        exact h
      have hoa := hps.out a hPa
      have e1 := har.out
      rw [hPa] at e1
      obtain rfl : a = ⟨av, ah, al⟩ := by
        obtain ⟨v, h, l⟩ := a
        have e2 : (#[.bool v, .int .u64 (h : Int), .int .u64 (l : Int)] : Array Value) = #[.bool av, .int .u64 (ah : Int), .int .u64 (al : Int)] := e1
        simp at e2
        obtain ⟨rfl, h1, h2⟩ := e2
        congr 1 <;> omega
      clear hBAD hE he0 hb1 hb2 e1 hPa hR har hps
      replace hRg := hide hRg
      replace hoa := hide hoa
      go_upto_region 5 with fail
      apply wp_region_lit
      refine wpl_ld rfl 26 (.tmp 7) rfl w3.heap.size rfl _ _ hga.out Tryd.underlying26 rfl (by kernel_rfl) ?_
      iterate 1 (refine wpList_plain rfl fun K hK => ?_; go_simp; refine hK _ _ ?_; clear hK K)
      refine wpl_new rfl rfl 28 _ (alloc_pfx _ rfl) 9 rfl (.tmp 41) rfl _ (fun _ => rfl) (fun _ => rfl) rfl (by kernel_rfl) (p_one av (ah : Int) (al : Int) 0) ?_
      intro w5 hgp hb5 hz5
      have hlS := hB.out.size
      have hlS2 : w.heap.size < w4.heap.size := World.block_lt_of_cell? w4 _ (blk_cell hg.out 0)
      clear hga
      replace hB := hide (hB.out.trans (hb5.mono hB.out.size))
      replace hg := hide (blk_on hb5 hg.out)
      replace hm1 := hide (hm1.out.below hb5)
      replace hgp := hide hgp
      refine wpList_nil ?_
      go_simp
      obtain ⟨w6, c6, hcv, hrow, hb6⟩ := bytes_any T w5
      go_upto_region 6 with fail
      apply wp_region_lit
      iterate 2 (refine wpList_plain rfl fun K hK => ?_; go_simp; refine hK _ _ ?_; clear hK K)
      replace hB := hide (hB.out.trans (hb6.mono hB.out.size))
      replace hg := hide (blk_on hb6 hg.out)
      replace hm1 := hide (hm1.out.below hb6)
      replace hgp := hide (blk_on hb6 hgp.out)
      clear hb6
      clear hcv
      replace hrow := hide hrow
      iterate 2 (refine wpList_plain rfl fun K hK => ?_; go_simp; refine hK _ _ ?_; clear hK K)
      refine wpList_nil ?_
      go_simp
      go_upto_block 2 with fail
      have hzS : w.heap.size ≤ w4.heap.size := hlS
      obtain ⟨gp, hgpe⟩ : ∃ x, w4.heap.size = x := ⟨_, rfl⟩
      obtain ⟨rb, hrbe⟩ : ∃ x, w5.heap.size = x := ⟨_, rfl⟩
      have hgpz : w4.heap.size < w6.heap.size := World.block_lt_of_cell? w6 _ (blk_cell hgp.out 0)
      have hrbz : w5.heap.size < w6.heap.size := by
        obtain ⟨b, off, e, hb, -⟩ := hrow.out.ptr (by omega)
        cases e
        exact hb
      rw [hgpe] at hgp hgpz hz5 hzS hlS2 ⊢
      rw [hrbe] at hrow hz5 hrbz ⊢
      clear hm1
      replace hgpe := hide hgpe
      replace hrbe := hide hrbe
      obtain ⟨F, hF⟩ : ∃ F, tailF 0 T = F := ⟨_, rfl⟩
      have hRg' := hRg.out
      rw [hF] at hRg'
      clear hRg
      replace hRg' := hide hRg'
      replace hF := hide hF
      go_loopw [11, 45] (fun _ kv wr => ∃ k m : Nat, k ≤ T.length ∧ kv = .int .i64 (k : Int) ∧ m < 10 ^ k ∧ tailF m (T.drop k) = F ∧ w6.grownBy wr (some gp) ∧ wr.heap[gp]? = some (.cells #[.bool av, .int .u64 (ah : Int), .int .u64 (al : Int), .int .i64 (m : Int)] 28 (0, 0))) (fun _ kv _ => T.length - (intOf kv).toNat)
      case atStart => exact ⟨0, 0, by omega, rfl, by decide, hF.out, grown_refl _ _, hgp.out⟩
      case round =>
        obtain ⟨k, m, hk, rfl, hml, hf, hgr, hgm⟩ := hrel
        have hgrz := hgr.size
        have hgS := grown_other hgr (by omega) (by omega) hg.out
        have hBS : Below w.heap.size w wr := hB.out.trans (below_grown hgr (by have := hB.out.size; omega) (by omega))
        have hm999 : m < 1000 := Nat.lt_of_lt_of_le hml (Nat.le_trans (Nat.pow_le_pow_right (by omega) (show k ≤ 3 by omega)) (by decide))
        replace hf := hide hf
        replace hgr := hide hgr
        replace hgm := hide hgm
        replace hgS := hide hgS
        replace hBS := hide hBS
        replace hml := hide hml
        by_cases hkT : k < T.length
        · have i1 : (k : Int) < (T.length : Int) := by omega
          have i2 : (0 : Int) ≤ (k : Int) := by omega
          obtain ⟨v, hv, hvl, hcv⟩ := hrow.out.byteAt hkT
          have hcv := (World.cell?_of_block (hgr.out.block rb (by omega) (by intro e; cases e; omega))).trans hcv
          rw [Nat.zero_add] at hcv
          have hdr : T.drop k = T.getD k 0 :: T.drop (k + 1) := by
            rw [List.getD_eq_getElem?_getD, List.getElem?_eq_getElem hkT]
            exact List.drop_eq_getElem_cons hkT
          have hf1 := hf.out
          rw [hdr, tailF, hv] at hf1
          clear hdr
          replace hf1 := hide hf1
          replace hv := hide hv
          by_cases hd : 48 ≤ v ∧ v ≤ 57
          · have t1 : decide ((v : Int) < 48) = false := by rw [decide_eq_false_iff_not]; omega
            have t2 : decide ((57 : Int) < (v : Int)) = false := by rw [decide_eq_false_iff_not]; omega
            have n1 : ¬ (v : Int) < 48 := by omega
            have n2 : ¬ (57 : Int) < (v : Int) := by omega
            have w1' : IntKind.i64.wrap (10 * (m : Int)) = ((10 * m : Nat) : Int) := by rw [wraps62 _ (by omega) (by omega)]; omega
            obtain ⟨d, hdd⟩ : ∃ d, v - 48 = d := ⟨_, rfl⟩
            have w2' : IntKind.u8.wrap ((v : Int) - 48) = (d : Int) := by rw [IntKind.wrap_u8]; omega
            have w3' : IntKind.i64.wrap (d : Int) = (d : Int) := wraps62 _ (by omega) (by omega)
            obtain ⟨m10, hm10⟩ : ∃ x, 10 * m = x := ⟨_, rfl⟩
            rw [hm10] at w1'
            obtain ⟨m2, hm2⟩ : ∃ x, m10 + d = x := ⟨_, rfl⟩
            have w4' : IntKind.i64.wrap ((m10 : Int) + (d : Int)) = (m2 : Int) := by rw [wraps62 _ (by omega) (by omega)]; omega
            have hf2 := hf1.out
            rw [if_pos hd, hdd, hm10, hm2] at hf2
            obtain ⟨w9, e9, hg9, g9⟩ := store_cell hgm.out 3 (.int .i64 (m2 : Int))
            have hg9 : w9.heap[gp]? = some (.cells #[.bool av, .int .u64 (ah : Int), .int .u64 (al : Int), .int .i64 (m2 : Int)] 28 (0, 0)) := hg9
            have c9 := blk_cell hgm.out
            have f9 := blk_free hgm.out 3
            have hgr9 := grown_trans' _ _ _ hgr.out g9
            have hml2 : m2 < 10 ^ (k + 1) := by have := hml.out; rw [Nat.pow_succ]; omega
            clear g9
            replace hf2 := hide hf2
            replace hg9 := hide hg9
            replace hgr9 := hide hgr9
            replace hd := hide hd
            replace hdd := hide hdd
            replace hm10 := hide hm10
            replace hm2 := hide hm2
            replace hml2 := hide hml2
            go_wp2_with fail
            refine ⟨⟨k + 1, m2, by omega, by first | rfl | go_num, hml2.out, hf2.out, hgr9.out, hg9.out⟩, by simp only [intOf]; omega⟩
          · have hR0 : R = none := by
              have hf2 := hf1.out
              rw [if_neg hd] at hf2
              rw [hRg'.out, ← hf2]; rfl
            subst hR0
            clear hRg' hF
            have tt : decide ((v : Int) < 48) = true ∨ (decide ((v : Int) < 48) = false ∧ decide ((57 : Int) < (v : Int)) = true) := by
              rcases Nat.lt_or_ge v 48 with h | h
              · exact .inl (by rw [decide_eq_true_eq]; omega)
              · exact .inr ⟨by rw [decide_eq_false_iff_not]; omega, by rw [decide_eq_true_eq]; omega⟩
            replace hd := hide hd
            rcases tt with t1 | ⟨t1, t2⟩
            · have n1 : (v : Int) < 48 := of_decide_eq_true t1
              go_upto_region 10 with fail
              apply wp_region_lit
              iterate 1 (refine wpList_plain rfl fun K hK => ?_; go_simp; refine hK _ _ ?_; clear hK K)
              refine wpl_st rfl 28 (.tmp 2) (.tmp 55) rfl (w.heap.size) 0 rfl (#[.bool false, .int .u64 0, .int .u64 0, .int .i64 0]) rfl hgS.out (by simp) (by kernel_rfl) (p_one _ _ _ _) fun w9 hg9 g9 => ?_
              rw [putA_whole _ _ (by rfl)] at hg9
              have hb9 : Below (w.heap.size) w w9 := (hBS.out).trans (below_grown g9 (by have := (hBS.out).size; omega) (Nat.le_refl _))
              have hld : (loadVar 28 ⟨w.heap.size, 0, none⟩).run Tryd.prog w9 = .ok (.agg (#[.bool false, .int .u64 0, .int .u64 0, .int .i64 0])) w9 := by
                simpa using run_loadVar_mid w9 (w.heap.size) 0 28 (#[.bool false, .int .u64 0, .int .u64 0, .int .i64 0]).toList _ (blk_range hg9) Tryd.underlying28 rfl (by kernel_rfl)
              clear hg9 g9
              replace hld := hide hld
              replace hb9 := hide hb9
              iterate 1 (refine wpList_plain rfl fun K hK => ?_; go_simp; refine hK _ _ ?_; clear hK K)
              refine wpList_nil ?_
              go_simp
              go_wp2_with fail
              exact bodyPost_ret (v := .tuple #[.agg #[.bool false, .int .u64 0, .int .u64 0, .int .i64 0], .int .i64 18]) (by simp [results, Tryd.results52, asAddr, hld.out, Result.andThen]) rfl ⟨rfl, hb9.out⟩
            · have n1 : ¬ (v : Int) < 48 := of_decide_eq_false t1
              have n2 : (57 : Int) < (v : Int) := of_decide_eq_true t2
              go_upto_region 10 with fail
              apply wp_region_lit
              iterate 1 (refine wpList_plain rfl fun K hK => ?_; go_simp; refine hK _ _ ?_; clear hK K)
              refine wpl_st rfl 28 (.tmp 2) (.tmp 55) rfl (w.heap.size) 0 rfl (#[.bool false, .int .u64 0, .int .u64 0, .int .i64 0]) rfl hgS.out (by simp) (by kernel_rfl) (p_one _ _ _ _) fun w9 hg9 g9 => ?_
              rw [putA_whole _ _ (by rfl)] at hg9
              have hb9 : Below (w.heap.size) w w9 := (hBS.out).trans (below_grown g9 (by have := (hBS.out).size; omega) (Nat.le_refl _))
              have hld : (loadVar 28 ⟨w.heap.size, 0, none⟩).run Tryd.prog w9 = .ok (.agg (#[.bool false, .int .u64 0, .int .u64 0, .int .i64 0])) w9 := by
                simpa using run_loadVar_mid w9 (w.heap.size) 0 28 (#[.bool false, .int .u64 0, .int .u64 0, .int .i64 0]).toList _ (blk_range hg9) Tryd.underlying28 rfl (by kernel_rfl)
              clear hg9 g9
              replace hld := hide hld
              replace hb9 := hide hb9
              iterate 1 (refine wpList_plain rfl fun K hK => ?_; go_simp; refine hK _ _ ?_; clear hK K)
              refine wpList_nil ?_
              go_simp
              go_wp2_with fail
              exact bodyPost_ret (v := .tuple #[.agg #[.bool false, .int .u64 0, .int .u64 0, .int .i64 0], .int .i64 18]) (by simp [results, Tryd.results52, asAddr, hld.out, Result.andThen]) rfl ⟨rfl, hb9.out⟩
        · have i1 : ((k : Int) < (T.length : Int)) = False := by rw [eq_iff_iff, iff_false]; omega
          have hdn : T.drop k = [] := List.drop_of_length_le (by omega)
          have hf1 := hf.out
          rw [hdn, tailF] at hf1
          have hR1 : R = if (Adr.mk av ah al).rightP m = true ∧ digL 10 m = T then some (⟨av, ah, al⟩, m) else none := by rw [hRg'.out, ← hf1]; rfl
          clear hRg' hF hdn hf1 hf
          have hRi := pRight_any ⟨av, ah, al⟩ hoa.out (m : Int) wr
          have hNu := pnum_any (m : Int)
          have hcl := clamp128 ⟨av, ah, al⟩ m
          rw [rightP_nat] at hRi
          obtain ⟨RB, hRB⟩ : ∃ x, Adr.rightP ⟨av, ah, al⟩ m = x := ⟨_, rfl⟩
          rw [hRB] at hR1 hRi hcl
          unfold pArr at hRi
          dsimp only at hRi
          have hcg := blk_cell hgm.out
          replace hRi := hide hRi
          replace hNu := hide hNu
          replace hcl := hide hcl
          replace hR1 := hide hR1
          replace hRB := hide hRB
          go_wp2_with fail
          refine hRi.out.mono ?_
          rintro e w7 ⟨rfl, hb7⟩
          have hgm7 := blk_below hb7 (by omega) hgm.out
          have hgS7 := blk_below hb7 (by omega) hgS.out
          have hBS7 := hBS.out.trans (hb7.mono hBS.out.size)
          have hz7 := hb7.size
          clear hb7 hcg hgm hgS hBS hRi
          cases RB
          · obtain rfl : R = none := by rw [hR1.out, if_neg (by simp)]
            replace hgm7 := hide hgm7
            replace hgS7 := hide hgS7
            replace hBS7 := hide hBS7
            go_upto_region 14 with fail
            apply wp_region_lit
            iterate 1 (refine wpList_plain rfl fun K hK => ?_; go_simp; refine hK _ _ ?_; clear hK K)
            refine wpl_st rfl 28 (.tmp 2) (.tmp 75) rfl (w.heap.size) 0 rfl (#[.bool false, .int .u64 0, .int .u64 0, .int .i64 0]) rfl hgS7.out (by simp) (by kernel_rfl) (p_one _ _ _ _) fun w9 hg9 g9 => ?_
            rw [putA_whole _ _ (by rfl)] at hg9
            have hb9 : Below (w.heap.size) w w9 := (hBS7.out).trans (below_grown g9 (by have := (hBS7.out).size; omega) (Nat.le_refl _))
            have hld : (loadVar 28 ⟨w.heap.size, 0, none⟩).run Tryd.prog w9 = .ok (.agg (#[.bool false, .int .u64 0, .int .u64 0, .int .i64 0])) w9 := by
              simpa using run_loadVar_mid w9 (w.heap.size) 0 28 (#[.bool false, .int .u64 0, .int .u64 0, .int .i64 0]).toList _ (blk_range hg9) Tryd.underlying28 rfl (by kernel_rfl)
            clear hg9 g9
            replace hld := hide hld
            replace hb9 := hide hb9
            iterate 1 (refine wpList_plain rfl fun K hK => ?_; go_simp; refine hK _ _ ?_; clear hK K)
            refine wpList_nil ?_
            go_simp
            go_wp2_with fail
            exact bodyPost_ret (v := .tuple #[.agg #[.bool false, .int .u64 0, .int .u64 0, .int .i64 0], .int .i64 18]) (by simp [results, Tryd.results52, asAddr, hld.out, Result.andThen]) rfl ⟨rfl, hb9.out⟩
          · have hR2 := hR1.out
            have hN2 := hNu.out w7
            rw [hcl.out rfl] at hN2
            obtain ⟨D, hD⟩ : ∃ x, digL 10 m = x := ⟨_, rfl⟩
            rw [hD] at hN2 hR2
            have hcg := blk_cell hgm7
            clear hR1 hNu hcl
            replace hgm7 := hide hgm7
            replace hgS7 := hide hgS7
            replace hBS7 := hide hBS7
            replace hN2 := hide hN2
            replace hR2 := hide hR2
            replace hD := hide hD
            by_cases hDT : D = T
            · obtain rfl : R = some (⟨av, ah, al⟩, m) := by rw [hR2.out, if_pos ⟨rfl, hDT⟩]
              rw [hDT] at hN2
              clear hR2 hD
              replace hDT := hide hDT
              go_wp2_with fail
              refine hN2.out.mono ?_
              rintro e w8 ⟨rfl, hb8⟩
              have hgm8 := blk_below hb8 (by omega) hgm7.out
              have hgS8 := blk_below hb8 (by omega) hgS7.out
              have hBS8 := hBS7.out.trans (hb8.mono hBS7.out.size)
              clear hb8 hcg
              replace hgm8 := hide hgm8
              replace hgS8 := hide hgS8
              replace hBS8 := hide hBS8
              go_upto_region 15 with fail
              apply wp_region_lit
              refine wpl_ld rfl 28 (.tmp 9) rfl gp rfl _ _ hgm8.out Tryd.underlying28 rfl (by kernel_rfl) ?_
              refine wpl_st rfl 28 (.tmp 2) (.tmp 76) rfl (w.heap.size) 0 rfl (#[.bool av, .int .u64 (ah : Int), .int .u64 (al : Int), .int .i64 (m : Int)]) rfl hgS8.out (by simp) (by kernel_rfl) (p_one _ _ _ _) fun w9 hg9 g9 => ?_
              rw [putA_whole _ _ (by rfl)] at hg9
              have hb9 : Below (w.heap.size) w w9 := (hBS8.out).trans (below_grown g9 (by have := (hBS8.out).size; omega) (Nat.le_refl _))
              have hld : (loadVar 28 ⟨w.heap.size, 0, none⟩).run Tryd.prog w9 = .ok (.agg (#[.bool av, .int .u64 (ah : Int), .int .u64 (al : Int), .int .i64 (m : Int)])) w9 := by
                simpa using run_loadVar_mid w9 (w.heap.size) 0 28 (#[.bool av, .int .u64 (ah : Int), .int .u64 (al : Int), .int .i64 (m : Int)]).toList _ (blk_range hg9) Tryd.underlying28 rfl (by kernel_rfl)
              clear hg9 g9
              replace hld := hide hld
              replace hb9 := hide hb9
              iterate 1 (refine wpList_plain rfl fun K hK => ?_; go_simp; refine hK _ _ ?_; clear hK K)
              refine wpList_nil ?_
              go_simp
              go_wp2_with fail
              exact bodyPost_ret (v := .tuple #[.agg #[.bool av, .int .u64 (ah : Int), .int .u64 (al : Int), .int .i64 (m : Int)], .int .i64 0]) (by simp [results, Tryd.results52, asAddr, hld.out, Result.andThen]) rfl ⟨rfl, hb9.out⟩
            · obtain rfl : R = none := by rw [hR2.out, if_neg (fun h => hDT h.2)]
              have tq : ((str D).toList == (str T).toList) = false := by rw [str_toList, str_toList]; simpa using hDT
              clear hR2 hD
              replace hDT := hide hDT
              go_wp2_with fail
              refine hN2.out.mono ?_
              rintro e w8 ⟨rfl, hb8⟩
              have hgS8 := blk_below hb8 (by omega) hgS7.out
              have hBS8 := hBS7.out.trans (hb8.mono hBS7.out.size)
              clear hb8 hcg
              replace hgS8 := hide hgS8
              replace hBS8 := hide hBS8
              go_upto_region 14 with fail
              apply wp_region_lit
              iterate 1 (refine wpList_plain rfl fun K hK => ?_; go_simp; refine hK _ _ ?_; clear hK K)
              refine wpl_st rfl 28 (.tmp 2) (.tmp 75) rfl (w.heap.size) 0 rfl (#[.bool false, .int .u64 0, .int .u64 0, .int .i64 0]) rfl hgS8.out (by simp) (by kernel_rfl) (p_one _ _ _ _) fun w9 hg9 g9 => ?_
              rw [putA_whole _ _ (by rfl)] at hg9
              have hb9 : Below (w.heap.size) w w9 := (hBS8.out).trans (below_grown g9 (by have := (hBS8.out).size; omega) (Nat.le_refl _))
              have hld : (loadVar 28 ⟨w.heap.size, 0, none⟩).run Tryd.prog w9 = .ok (.agg (#[.bool false, .int .u64 0, .int .u64 0, .int .i64 0])) w9 := by
                simpa using run_loadVar_mid w9 (w.heap.size) 0 28 (#[.bool false, .int .u64 0, .int .u64 0, .int .i64 0]).toList _ (blk_range hg9) Tryd.underlying28 rfl (by kernel_rfl)
              clear hg9 g9
              replace hld := hide hld
              replace hb9 := hide hb9
              iterate 1 (refine wpList_plain rfl fun K hK => ?_; go_simp; refine hK _ _ ?_; clear hK K)
              refine wpList_nil ?_
              go_simp
              go_wp2_with fail
              exact bodyPost_ret (v := .tuple #[.agg #[.bool false, .int .u64 0, .int .u64 0, .int .i64 0], .int .i64 18]) (by simp [results, Tryd.results52, asAddr, hld.out, Result.andThen]) rfl ⟨rfl, hb9.out⟩
    · have hRn : R = none := by
        have h := pfxG_bad PF C T (by rw [hE.out, he0, hb1, hb2]; exact hBAD.out)
        rw [hR.out] at h
        exact h
      subst hRn
      clear hBAD hR hE he0 hb1 hb2
      go_upto_region 4 with fail
      apply wp_region_lit
      iterate 1 (refine wpList_plain rfl fun K hK => ?_; go_simp; refine hK _ _ ?_; clear hK K)
      refine wpl_st rfl 28 (.tmp 2) (.tmp 39) rfl (w.heap.size) 0 rfl (#[.bool false, .int .u64 0, .int .u64 0, .int .i64 0]) rfl hg.out (by simp) (by kernel_rfl) (p_one _ _ _ _) fun w9 hg9 g9 => ?_
      rw [putA_whole _ _ (by rfl)] at hg9
      have hb9 : Below (w.heap.size) w w9 := (hB.out).trans (below_grown g9 (by have := (hB.out).size; omega) (Nat.le_refl _))
      have hld : (loadVar 28 ⟨w.heap.size, 0, none⟩).run Tryd.prog w9 = .ok (.agg (#[.bool false, .int .u64 0, .int .u64 0, .int .i64 0])) w9 := by
        simpa using run_loadVar_mid w9 (w.heap.size) 0 28 (#[.bool false, .int .u64 0, .int .u64 0, .int .i64 0]).toList _ (blk_range hg9) Tryd.underlying28 rfl (by kernel_rfl)
      clear hg9 g9
      replace hld := hide hld
      replace hb9 := hide hb9
      iterate 1 (refine wpList_plain rfl fun K hK => ?_; go_simp; refine hK _ _ ?_; clear hK K)
      refine wpList_nil ?_
      go_simp
      go_wp2_with fail
      exact bodyPost_ret (v := .tuple #[.agg #[.bool false, .int .u64 0, .int .u64 0, .int .i64 0], .int .i64 18]) (by simp [results, Tryd.results52, asAddr, hld.out, Result.andThen]) rfl ⟨rfl, hb9.out⟩
end Addr05
end Go.Proofs.YtbcicbiphgeghaaDoor
/- conf, plain: what both readers make of a line's words. -/
namespace Go.Proofs.YtbcicbiphgeghaaDoor
open Go.RowKit Go.ChangeShapes Go.WideShapes Go.ChangeAt Go.Deep
namespace Conf18
open Addr05 (Adr parseF pfxF)
structure Nd where
  name : List UInt8
  kind : Int
  above : Int
  weight : Int
  a : Adr
structure Vp where
  a : Adr
  proto : Int
  port : Int
  copies : Int
  nat : Bool
structure Vw where
  a : Adr
  bits : Int
  level : Int
structure Cfg where
  nodes : List Nd
  vips : List Vp
  views : List Vw
  factor : Int
  domain : Int
  s0 : Adr
  s1 : Adr
  fs : Bool
  ds : Bool
abbrev zA : Adr := ⟨false, 0, 0⟩
def startC : Cfg := ⟨[], [], [], 140, 2, zA, zA, false, false⟩
def wLevel : List UInt8 := [108, 101, 118, 101, 108]
def wZone : List UInt8 := [122, 111, 110, 101]
def wRack : List UInt8 := [114, 97, 99, 107]
def wHost : List UInt8 := [104, 111, 115, 116]
def wFactor : List UInt8 := [102, 97, 99, 116, 111, 114]
def wDomain : List UInt8 := [100, 111, 109, 97, 105, 110]
def wSelf : List UInt8 := [115, 101, 108, 102]
def wVip : List UInt8 := [118, 105, 112]
def wView : List UInt8 := [118, 105, 101, 119]
def wTcp : List UInt8 := [116, 99, 112]
def wUdp : List UInt8 := [117, 100, 112]
def wCopies : List UInt8 := [99, 111, 112, 105, 101, 115]
def wNat : List UInt8 := [110, 97, 116]
def kindF (w : List UInt8) : Nat := if w = wLevel then 1 else if w = wZone then 2 else if w = wRack then 3 else if w = wHost then 4 else 0
def protoF (w : List UInt8) : Nat := if w = wTcp then 6 else if w = wUdp then 17 else 0
def atN (ns : List Nd) (s : List UInt8) : Option Nat := ns.findIdx? fun n => decide (n.name = s)
def wd (ws : List (List UInt8)) (i : Nat) : List UInt8 := ws.getD i []
abbrev Adr.isZ (a : Adr) : Bool := decide (a.v6 = false ∧ a.hi = 0 ∧ a.lo = 0)
def factorF (c : Cfg) (ws : List (List UInt8)) : Except Nat Cfg :=
  if ws.length ≠ 2 then .error 4 else match lexF (wd ws 1) 1000 with
    | none => .error 5
    | some n => if n < 100 then .error 5 else if c.fs = true then .error 8 else .ok { c with factor := (n : Int), fs := true }
def domainF (c : Cfg) (ws : List (List UInt8)) : Except Nat Cfg :=
  if ws.length ≠ 2 ∨ (wd ws 1 ≠ wZone ∧ wd ws 1 ≠ wRack) then .error 4 else if c.ds = true then .error 8 else .ok { c with domain := (kindF (wd ws 1) : Int), ds := true }
def selfF (c : Cfg) (ws : List (List UInt8)) : Except Nat Cfg :=
  if ws.length ≠ 2 then .error 4 else match parseF (wd ws 1) with
    | none => .error 18
    | some a => if Adr.isZ (if a.v6 = true then c.s1 else c.s0) = false then .error 8 else if Adr.isZ a = true then .error 18 else .ok (if a.v6 = true then { c with s1 := a } else { c with s0 := a })
def viewF (c : Cfg) (ws : List (List UInt8)) : Except Nat Cfg :=
  if ws.length ≠ 3 then .error 4 else match pfxF (wd ws 1) with
    | none => .error 18
    | some p => match lexF (wd ws 2) 3 with
      | none => .error 5
      | some n => .ok { c with views := c.views ++ [⟨p.1, (p.2 : Int), (n : Int)⟩] }
def mostF (k : Nat) : Nat := if k = 1 then 2 else if k = 2 ∨ k = 3 then 4 else 5
def leastF (k : Nat) : Nat := if k = 1 then 2 else if k = 2 ∨ k = 3 then 3 else 5
/-- What stands above, by a line's words. -/
def aboveF (c : Cfg) (ws : List (List UInt8)) : Option Int := if ws.length ≤ 2 then some (-1) else (atN c.nodes (wd ws 2)).map fun k => (k : Int)
def weightF (k : Nat) (ws : List (List UInt8)) : Option Nat := if ws.length ≤ 3 then some 0 else match lexF (wd ws 3) 65535 with
  | none => none
  | some v => if v = 0 ∧ k ≠ 4 then none else some v
def nadrF (ws : List (List UInt8)) : Option Adr := if ws.length ≤ 4 then some zA else parseF (wd ws 4)
def nodeF (k : Nat) (c : Cfg) (ws : List (List UInt8)) : Except Nat Cfg :=
  if ws.length < leastF k ∨ mostF k < ws.length then .error 4 else match aboveF c ws with
    | none => .error 7
    | some u => match weightF k ws with
      | none => .error 17
      | some v => match nadrF ws with
        | none => .error 18
        | some a => if (atN c.nodes (wd ws 1)).isSome = true then .error 8 else .ok { c with nodes := c.nodes ++ [⟨wd ws 1, (k : Int), u, (v : Int), a⟩] }
def copF (ws : List (List UInt8)) : Option (Nat × List (List UInt8)) :=
  if 1 < ws.length ∧ wd ws 0 = wCopies then (match lexF (wd ws 1) 8 with
    | none => none
    | some n => if n < 2 then none else some (n, ws.drop 2)) else some (1, ws)
def natF (ws : List (List UInt8)) : Bool × List (List UInt8) := if 0 < ws.length ∧ wd ws 0 = wNat then (true, ws.drop 1) else (false, ws)
def vipF (c : Cfg) (ws : List (List UInt8)) : Except Nat Cfg :=
  if ws.length < 4 then .error 4 else match parseF (wd ws 1) with
    | none => .error 18
    | some a => match lexF (wd ws 3) 65535 with
      | none => .error 4
      | some p => if protoF (wd ws 2) = 0 then .error 4 else match copF (ws.drop 4) with
        | none => .error 5
        | some (n, r) => if 0 < (natF r).2.length then .error 4 else .ok { c with vips := c.vips ++ [⟨a, (protoF (wd ws 2) : Int), (p : Int), (n : Int), (natF r).1⟩] }
def lineF (c : Cfg) (ws : List (List UInt8)) : Except Nat Cfg :=
  if wd ws 0 = wFactor then factorF c ws else if wd ws 0 = wDomain then domainF c ws else if wd ws 0 = wSelf then selfF c ws
  else if wd ws 0 = wVip then vipF c ws else if wd ws 0 = wView then viewF c ws else if kindF (wd ws 0) ≠ 0 then nodeF (kindF (wd ws 0)) c ws else .error 15
def linesF (c : Cfg) : List (Nat × List (List UInt8)) → Except (Nat × Nat) Cfg
  | [] => .ok c
  | x :: l => match lineF c x.2 with
    | .error n => .error (x.1, n)
    | .ok c' => linesF c' l
def Cfg.small (c : Cfg) (k : Nat) : Prop := c.nodes.length ≤ k ∧ c.vips.length ≤ k ∧ c.views.length ≤ k
theorem wd_get {ws : List (List UInt8)} {i : Nat} {x : List UInt8} (h : ws[i]? = some x) : wd ws i = x := by unfold wd; rw [List.getD_eq_getElem?_getD, h]; rfl
theorem kindF_le (w : List UInt8) : kindF w ≤ 4 := by unfold kindF; split <;> (try split) <;> (try split) <;> (try split) <;> omega
theorem lineF_small {c c' : Cfg} {ws : List (List UInt8)} {k : Nat} (h : c.small k) (he : lineF c ws = .ok c') : c'.small (k + 1) := by
  obtain ⟨h1, h2, h3⟩ := h
  have hs : c.small (k + 1) := ⟨by omega, by omega, by omega⟩
  unfold lineF at he
  split at he
  · unfold factorF at he
    repeat' split at he
    all_goals cases he
    exact hs
  split at he
  · unfold domainF at he
    repeat' split at he
    all_goals cases he
    exact hs
  split at he
  · unfold selfF at he
    repeat' split at he
    all_goals cases he
    all_goals exact hs
  split at he
  · unfold vipF at he
    repeat' split at he
    all_goals cases he
    exact ⟨by simp only; omega, by simp only [List.length_append, List.length_singleton]; omega, by simp only; omega⟩
  split at he
  · unfold viewF at he
    repeat' split at he
    all_goals cases he
    exact ⟨by simp only; omega, by simp only; omega, by simp only [List.length_append, List.length_singleton]; omega⟩
  split at he
  · unfold nodeF at he
    repeat' split at he
    all_goals cases he
    exact ⟨by simp only [List.length_append, List.length_singleton]; omega, by simp only; omega, by simp only; omega⟩
  · cases he
end Conf18
end Go.Proofs.YtbcicbiphgeghaaDoor
/- conf: kind, proto. No condition. -/
namespace Go.Proofs.YtbcicbiphgeghaaDoor
open Go.RowKit Go.ChangeShapes Go.WideShapes Go.ChangeAt Go.Deep
namespace Conf18
theorem eqw (y l : List UInt8) : ((str y).toList == l) = decide (y = l) := by
  rw [show (str y).toList = y by simp [str, ByteArray.toList_eq]]
  by_cases h : y = l
  · subst h; simp
  · rw [decide_eq_false h, beq_eq_false_iff_ne]; exact h
set_option maxRecDepth 20000 in
set_option maxHeartbeats 8000000 in
theorem proto_any (y : List UInt8) (w : World) : Calls Tryd.prog 122 #[.string (str y)] w fun e w' => e = .returned (.int .i64 (protoF y : Int)) ∧ w' = w := by
  have t1 := eqw y [116, 99, 112]
  have t2 := eqw y [117, 100, 112]
  obtain ⟨p, hp⟩ : ∃ p, protoF y = p := ⟨_, rfl⟩
  rw [hp]
  unfold protoF wTcp wUdp at hp
  by_cases h1 : y = [116, 99, 112]
  · rw [decide_eq_true h1] at t1
    rw [if_pos h1] at hp
    clear h1 t2
    subst hp
    go_enter Tryd.func122, Tryd.ntmps122
    go_wp2_with fail
    go_ret
    exact ⟨rfl, rfl⟩
  rw [decide_eq_false h1] at t1
  rw [if_neg h1] at hp
  by_cases h2 : y = [117, 100, 112]
  · rw [decide_eq_true h2] at t2
    rw [if_pos h2] at hp
    clear h1 h2
    subst hp
    go_enter Tryd.func122, Tryd.ntmps122
    go_wp2_with fail
    go_ret
    exact ⟨rfl, rfl⟩
  rw [decide_eq_false h2] at t2
  rw [if_neg h2] at hp
  clear h1 h2
  subst hp
  go_enter Tryd.func122, Tryd.ntmps122
  go_wp2_with fail
  go_ret
  exact ⟨rfl, rfl⟩
set_option maxRecDepth 20000 in
set_option maxHeartbeats 8000000 in
theorem kind_any (y : List UInt8) (w : World) : Calls Tryd.prog 121 #[.string (str y)] w fun e w' => e = .returned (.int .i64 (kindF y : Int)) ∧ w' = w := by
  have t1 := eqw y [108, 101, 118, 101, 108]
  have t2 := eqw y [122, 111, 110, 101]
  have t3 := eqw y [114, 97, 99, 107]
  have t4 := eqw y [104, 111, 115, 116]
  obtain ⟨p, hp⟩ : ∃ p, kindF y = p := ⟨_, rfl⟩
  rw [hp]
  unfold kindF wLevel wZone wRack wHost at hp
  by_cases h1 : y = [108, 101, 118, 101, 108]
  · rw [decide_eq_true h1] at t1
    rw [if_pos h1] at hp
    clear h1 t2 t3 t4
    subst hp
    go_enter Tryd.func121, Tryd.ntmps121
    go_wp2_with fail
    go_ret
    exact ⟨rfl, rfl⟩
  rw [decide_eq_false h1] at t1
  rw [if_neg h1] at hp
  by_cases h2 : y = [122, 111, 110, 101]
  · rw [decide_eq_true h2] at t2
    rw [if_pos h2] at hp
    clear h1 h2 t3 t4
    subst hp
    go_enter Tryd.func121, Tryd.ntmps121
    go_wp2_with fail
    go_ret
    exact ⟨rfl, rfl⟩
  rw [decide_eq_false h2] at t2
  rw [if_neg h2] at hp
  by_cases h3 : y = [114, 97, 99, 107]
  · rw [decide_eq_true h3] at t3
    rw [if_pos h3] at hp
    clear h1 h2 h3 t4
    subst hp
    go_enter Tryd.func121, Tryd.ntmps121
    go_wp2_with fail
    go_ret
    exact ⟨rfl, rfl⟩
  rw [decide_eq_false h3] at t3
  rw [if_neg h3] at hp
  by_cases h4 : y = [104, 111, 115, 116]
  · rw [decide_eq_true h4] at t4
    rw [if_pos h4] at hp
    clear h1 h2 h3 h4
    subst hp
    go_enter Tryd.func121, Tryd.ntmps121
    go_wp2_with fail
    go_ret
    exact ⟨rfl, rfl⟩
  rw [decide_eq_false h4] at t4
  rw [if_neg h4] at hp
  clear h1 h2 h3 h4
  subst hp
  go_enter Tryd.func121, Tryd.ntmps121
  go_wp2_with fail
  go_ret
  exact ⟨rfl, rfl⟩
end Conf18
end Go.Proofs.YtbcicbiphgeghaaDoor
/- conf, plain: what a text is as a configuration, or which line is wrong. No condition. -/
namespace Go.Proofs.YtbcicbiphgeghaaDoor
open Go.RowKit Go.ChangeShapes Go.WideShapes Go.ChangeAt Go.Deep
namespace Conf18
open Addr05 (splitL split_part cut_len)
theorem wAt_words (s : List UInt8) : ∀ i, ∀ y ∈ (wAt s i).1, y.length ≤ s.length
  | 0, y, h => by cases h
  | i + 1, y, h => by
    have ih := wAt_words s i
    rw [wAt] at h
    unfold wStep at h
    split at h
    · split at h
      · rcases List.mem_append.1 h with h1 | h1
        · exact ih y h1
        · rw [List.mem_singleton] at h1
          subst h1
          rw [List.length_drop, List.length_take]
          omega
      · exact ih y h
    · split at h <;> exact ih y h
theorem lnA_words (ps : List (List UInt8)) (M : Nat) (h : ∀ x ∈ ps, x.length ≤ M) : ∀ i, ∀ p ∈ lnA ps i, p.2 ≠ [] ∧ ∀ y ∈ p.2, y.length ≤ M
  | 0, p, hp => by cases hp
  | i + 1, p, hp => by
    have ih := lnA_words ps M h i
    unfold lnA at hp
    split at hp
    · exact ih p hp
    · rename_i x hx
      split at hp
      · exact ih p hp
      · rename_i hne
        rcases List.mem_append.1 hp with h1 | h1
        · exact ih p h1
        · rw [List.mem_singleton] at h1
          subst h1
          refine ⟨hne, fun y hy => ?_⟩
          have h2 := wAt_words _ _ y hy
          have h3 := (cut_len x [35]).1
          have h4 := h x (List.mem_of_getElem? hx)
          omega
theorem linesF_app (c : Cfg) (a b : List (Nat × List (List UInt8))) : linesF c (a ++ b) = match linesF c a with | .error e => .error e | .ok c' => linesF c' b := by
  induction a generalizing c with
  | nil => rfl
  | cons x a ih =>
    rw [List.cons_append, linesF, linesF]
    split
    · rfl
    · exact ih _
theorem linesF_next {c0 c c1 : Cfg} {L : List (Nat × List (List UInt8))} {i : Nat} {x : Nat × List (List UInt8)} (h1 : L[i]? = some x) (h2 : linesF c0 (L.take i) = .ok c) (h3 : lineF c x.2 = .ok c1) : linesF c0 (L.take (i + 1)) = .ok c1 := by
  rw [List.take_add_one, h1, linesF_app, h2]
  simp only [Option.toList, linesF, h3]
theorem linesF_err {c0 c : Cfg} {L : List (Nat × List (List UInt8))} {i : Nat} {x : Nat × List (List UInt8)} {m : Nat} (h1 : L[i]? = some x) (h2 : linesF c0 (L.take i) = .ok c) (h3 : lineF c x.2 = .error m) : linesF c0 L = .error (x.1, m) := by
  have h4 : linesF c0 (L.take (i + 1)) = .error (x.1, m) := by
    rw [List.take_add_one, h1, linesF_app, h2]
    simp only [Option.toList, linesF, h3]
  have := linesF_app c0 (L.take (i + 1)) (L.drop (i + 1))
  rw [List.take_append_drop, h4] at this
  exact this
/-- The first part that is wrong, from a place on. -/
def lexE : Nat → List (List UInt8) → Option (Nat × Int)
  | _, [] => none
  | i, x :: r => if lnBad i x ≠ 0 then some (i + 1, lnBad i x) else lexE (i + 1) r
theorem lexE_some (ps : List (List UInt8)) (k : Nat) (i : Nat) (x : List UInt8) (h1 : ps[i]? = some x) (h2 : lnBad (k + i) x ≠ 0) (h3 : ∀ (j : Nat) (y : List UInt8), j < i → ps[j]? = some y → lnBad (k + j) y = 0) : lexE k ps = some (k + i + 1, lnBad (k + i) x) := by
  induction ps generalizing k i with
  | nil => simp at h1
  | cons y ps ih =>
    unfold lexE
    cases i with
    | zero =>
      simp at h1
      subst h1
      simp only [Nat.add_zero] at h2 ⊢
      rw [if_pos h2]
    | succ i =>
      have h4 := h3 0 y (by omega) rfl
      rw [Nat.add_zero] at h4
      rw [if_neg (fun h => h h4)]
      have := ih (k + 1) i (by simpa using h1) (by rw [Nat.add_assoc, Nat.add_comm 1 i]; exact h2) (fun j z hj hz => by
        have := h3 (j + 1) z (by omega) (by simpa using hz)
        rw [Nat.add_assoc, Nat.add_comm 1 j]; exact this)
      rw [this]
      rw [show k + 1 + i = k + (i + 1) by omega]
theorem lexE_none (ps : List (List UInt8)) (k : Nat) (h3 : ∀ (j : Nat) (y : List UInt8), ps[j]? = some y → lnBad (k + j) y = 0) : lexE k ps = none := by
  induction ps generalizing k with
  | nil => rfl
  | cons y ps ih =>
    unfold lexE
    have h4 := h3 0 y rfl
    rw [Nat.add_zero] at h4
    rw [if_neg (fun h => h h4)]
    exact ih (k + 1) (fun j z hz => by
      have := h3 (j + 1) z (by simpa using hz)
      rw [Nat.add_assoc, Nat.add_comm 1 j]; exact this)
/-- What a text is as a configuration, or the line that is wrong, and why. -/
def confF (s : List UInt8) : Except (Nat × Int) Cfg := match lexE 0 (splitL 10 s) with
  | some p => .error p
  | none => match linesF startC (lnA (splitL 10 s) (splitL 10 s).length) with
    | .error p => .error (p.1, (p.2 : Int))
    | .ok c => .ok c
end Conf18
end Go.Proofs.YtbcicbiphgeghaaDoor
/- conf, plain: what the law's own examples are read as. No condition. -/
namespace Go.Proofs.YtbcicbiphgeghaaDoor
open Go.RowKit Go.ChangeShapes Go.WideShapes Go.ChangeAt Go.Deep
namespace Conf18
open Addr05
/-- factor 99 -/
def exA : List UInt8 := [102, 97, 99, 116, 111, 114, 32, 57, 57]
def exB : List UInt8 := [108, 101, 118, 101, 108, 32, 97, 10, 122, 111, 110, 101, 32, 98, 32, 97, 10, 114, 97, 99, 107, 32, 99, 32, 98, 32, 55, 10, 104, 111, 115, 116, 32, 100, 32, 99, 32, 53, 32, 49, 46, 50, 46, 51, 46, 52]
theorem exA_is : (match confF exA with | .error p => decide (p.1 = 1 ∧ p.2 = 5) | .ok _ => false) = true := by kernel_rfl
theorem exB_is : (match confF exB with | .error _ => false | .ok c => decide (c.nodes.length = 4 ∧ (c.nodes.getD 3 ⟨[], 0, 0, 0, zA⟩).above = 2 ∧ c.factor = 140)) = true := by kernel_rfl
end Conf18
end Go.Proofs.YtbcicbiphgeghaaDoor
/- A row that lists variables, met: the wrap that keeps what they hold and the world's shape; the cell of bytealg.MaxLen. No condition. -/
namespace Go.Proofs.YtbcicbiphgeghaaDoor
open Go.RowKit Go.ChangeShapes Go.WideShapes Go.ChangeAt Go.Deep
theorem returns_laid {H : Type} {enc : TypeId × Value → H} {a : Assume} {C : Checked} {os : Os} {f : FuncId} {fn : Func} {s : ChangeSpec} {conds : List PathCond} {apart fresh handsOn again : Bool} {X : World → Array Value → Prop}
    (hX : ∀ (w w' : World) (args : Array Value), w.heap = w'.heap → X w args → X w' args)
    (own : ownKnob C.prog.godebug = none) (started : os.Started) (noInit : C.prog.inits.idxOf? f = none) (hfn : C.prog.funcs[f]? = some fn)
    (witness : ∃ (w : World) (tape : Tape) (i : Input), w.os = os ∧ (w.forCall tape i).Shaped C.prog ∧ i.vars = [] ∧ Input.okWide C.prog (w.forCall tape i) .any w.heap.size f i ∧
      ((s.pre enc C.prog fn conds apart (w.forCall tape i).memory i.args ∧ X (w.forCall tape i).memory i.args) ∧ sizedMet enc C.prog fn (OpenSpec.ofChange s) apart (w.forCall tape i).memory i.args) ∧ a.holds C.prog (lone (Frame.enter C.prog f i.args .normal) [] (w.forCall tape i)))
    (contract : ∀ (W : World) (base : Nat) (args : Array Value) (ds gs : List (DataW H)) (before : List MemPlace),
      (∀ (j : Nat) t v, fn.params[j]? = some t → args[j]? = some v → Value.okWide C.prog W .any base t v) →
      DataW.Whole enc C.prog fn.params.toList s.vars apart W args.toList ds gs before →
      conds.all (PathCond.test C.prog ⟨fn.params.toList, ds, s.plain.varTypes C.prog, gs⟩) = true →
      X W args → W.ShapedOpen C.prog →
      Calls C.prog f args W fun e W' => ∃ v, e = .returned v ∧ s.post enc C.prog fn apart fresh handsOn again W args v W') :
    ReturnsInHanded a C os f .any (fun w args => (s.pre enc C.prog fn conds apart w args ∧ X w args) ∧ sizedMet enc C.prog fn (OpenSpec.ofChange s) apart w args) (s.post enc C.prog fn apart fresh handsOn again) := by
  refine returnsInHanded_of_calls own started noInit witness ?_
  intro w tape i _ hsh _ hok hpre _
  obtain ⟨_, _, _, fn', hfn', _, _, _, _, hval⟩ := hok
  have e : fn' = fn := Option.some.inj (hfn'.symm.trans hfn)
  subst e
  obtain ⟨⟨⟨ds, gs, before, hw, hc⟩, hx⟩, _⟩ := hpre
  have hw' := DataW.Whole.of_heap (w' := w.forCall tape i) (by rfl) hw
  refine (contract (w.forCall tape i) w.heap.size i.args ds gs before hval hw' hc (hX _ _ _ (by rfl) hx) hsh).mono fun e W' ⟨v, he, hp⟩ => ?_
  subst he
  exact ChangeSpec.post_blind hp
theorem maxAt_of {w : World} (h : w.ShapedOpen Tryd.prog) : Addr05.MaxAt w :=
  cell_of_shapedOpen_int (t := 3) (zero := #[.int .i64 0]) h (of_decide_eq_true (by kernel_rfl)) (by kernel_rfl) rfl (by kernel_rfl) (by kernel_rfl) Tryd.underlying3
end Go.Proofs.YtbcicbiphgeghaaDoor
/- Maps of the call's own, with texts as keys: of numbers (a part of a function), of Bools. Condition: fewer than 2^40 entries. -/
namespace Go.Proofs.YtbcicbiphgeghaaDoor
open Go.RowKit Go.ChangeShapes Go.WideShapes Go.ChangeAt Go.Deep
open Go.Maps (Keyed)
namespace Conf18
theorem kLaw : Keyed Tryd.prog 9 := Go.Maps.string_keyed Tryd.underlying9
theorem zeroI (w : World) : (zeroValue 3).run Tryd.prog w = .ok (.int .i64 0) w := by kernel_rfl
theorem zeroB (w : World) : (zeroValue 4).run Tryd.prog w = .ok (.bool false) w := by kernel_rfl
abbrev kl (s : List UInt8) : Lit := .string s
theorem keyK (s : List UInt8) (h : s.length ≤ 1099511627776) : keyOf Tryd.prog 9 (.string (str s)) = some (kl s) := Go.WideMaps.keyOf_string_mk Tryd.underlying9 (by rw [show (str s).size = s.length from List.size_toArray]; unfold maxLen; omega)
/-- Block B is a map of at most n entries that says what f says. -/
def MapI (w : World) (B n : Nat) (f : List UInt8 → Option Nat) : Prop :=
  ∃ D : DataW Unit, w.ownsMap Tryd.prog 9 (plainElem Tryd.prog 3) B n D ∧ ∀ s, Maps.has D (kl s) = (f s).isSome ∧ ∀ v, f s = some v → ∀ z, D.atKey (kl s) z = .lit (.int .i64 (v : Int))
def MapB (w : World) (B n : Nat) (g : List UInt8 → Bool) : Prop :=
  ∃ D : DataW Unit, w.ownsMap Tryd.prog 9 (plainElem Tryd.prog 4) B n D ∧ ∀ s, D.atKey (kl s) (.lit (.bool false)) = .lit (.bool (g s))
theorem MapI.made (w : World) : MapI (w.alloc (.map #[] 0)) w.heap.size 0 (fun _ => none) := ⟨.map [], World.ownsMap_made _ _ _ _, fun s => ⟨rfl, fun v h => by cases h⟩⟩
theorem MapB.made (w : World) : MapB (w.alloc (.map #[] 0)) w.heap.size 0 (fun _ => false) := ⟨.map [], World.ownsMap_made _ _ _ _, fun s => rfl⟩
theorem MapI.kept {w w' : World} {row : Option Nat} {B n : Nat} {f : List UInt8 → Option Nat} (h : MapI w B n f) (hg : w.grownBy w' row) (hne : some B ≠ row) : MapI w' B n f := by
  obtain ⟨D, h1, h2⟩ := h
  exact ⟨D, h1.kept hg hne, h2⟩
theorem MapB.kept {w w' : World} {row : Option Nat} {B n : Nat} {g : List UInt8 → Bool} (h : MapB w B n g) (hg : w.grownBy w' row) (hne : some B ≠ row) : MapB w' B n g := by
  obtain ⟨D, h1, h2⟩ := h
  exact ⟨D, h1.kept hg hne, h2⟩
theorem MapI.blk {w : World} {B n : Nat} {f : List UInt8 → Option Nat} (h : MapI w B n f) : ∃ es k, w.heap[B]? = some (.map es k) := by
  obtain ⟨D, ⟨es, k, h1, _⟩, _⟩ := h
  exact ⟨es, k, h1⟩
theorem MapB.blk {w : World} {B n : Nat} {g : List UInt8 → Bool} (h : MapB w B n g) : ∃ es k, w.heap[B]? = some (.map es k) := by
  obtain ⟨D, ⟨es, k, h1, _⟩, _⟩ := h
  exact ⟨es, k, h1⟩
theorem plainBool_inv' {P : Program} {e : TypeId} (he : P.underlying e = some .bool) {v : Value} {z : DataW Unit × List MemPlace} (h : plainElem P e v = some z) : ∃ x, v = .bool x ∧ z = (.lit (.bool x), []) := by
  unfold plainElem at h
  rw [he] at h
  cases v <;> simp at h
  exact ⟨_, rfl, h.symm⟩
theorem plainBool_inv {v : Value} {z : DataW Unit × List MemPlace} (h : plainElem Tryd.prog 4 v = some z) : ∃ x, v = .bool x ∧ z = (.lit (.bool x), []) := plainBool_inv' Tryd.underlying4 h
theorem MapI.look {w : World} {B n : Nat} {f : List UInt8 → Option Nat} (h : MapI w B n f) (s : List UInt8) (hs : s.length ≤ 1099511627776) :
    (Instr.lookup 85 (.map (some B)) (.string (str s)) true).run Tryd.prog w = .ok (.tuple #[.int .i64 (((f s).getD 0 : Nat) : Int), .bool (f s).isSome]) w := by
  obtain ⟨D, h1, h2⟩ := h
  obtain ⟨v, ps, hrun, hv⟩ := h1.look_ok kLaw Tryd.underlying85 (zeroI w) (plainElem_int Tryd.underlying3 (a := 0) (by decide)) (keyK s hs)
  obtain ⟨c, rfl, hc, _⟩ := plainElem_int_inv Tryd.underlying3 hv
  rw [hrun, (h2 s).1]
  have hc1 := congrArg Prod.fst hc
  dsimp only at hc1
  have : c = (((f s).getD 0 : Nat) : Int) := by
    rcases hf : f s with _ | u
    · have h3 := Maps.atKey_of_not_has (D := D) (k := kl s) (by rw [(h2 s).1, hf]; rfl) (.lit (.int .i64 0))
      rw [h3] at hc1
      simpa using hc1.symm
    · rw [(h2 s).2 u hf] at hc1
      simpa using hc1.symm
  rw [this]
section
variable {w : World} {ops : Array Oper} {rest : List Oper} {o : Oper} {a : Act} {Q : Exit → Act → World → Prop}
theorem wpl_lookB (hg : o.guard = none) (m x : Operand) (hop : o.op = Op.lookup 137 m x false) (B n : Nat) (g : List UInt8 → Bool) (s : List UInt8) (hs : s.length ≤ 1099511627776)
    (hm : a.eval m = .map (some B)) (hx : a.eval x = .string (str s)) (hB : MapB w B n g) (hK : wpList Tryd.prog ops Q rest (a.put o.dst (.bool (g s))) w) : wpList Tryd.prog ops Q (o :: rest) a w := by
  obtain ⟨D, h1, h2⟩ := hB
  refine wpList_plain hg fun K' hK' => ?_
  obtain ⟨v, ps, hrun, hv⟩ := h1.lookup kLaw Tryd.underlying137 (zeroB w) (plainElem_bool Tryd.underlying4 false) (keyK s hs)
  obtain ⟨b, rfl, hc⟩ := plainBool_inv hv
  rw [h2 s] at hc
  have : g s = b := by have h3 := hc; simp at h3; exact h3.1
  subst this
  unfold Oper.wp
  simp [execOp, hop, hm, hx, hrun, Result.andThen]
  exact hK' _ _ hK
theorem wpl_lookI (hg : o.guard = none) (m x : Operand) (hop : o.op = Op.lookup 85 m x true) (B n : Nat) (f : List UInt8 → Option Nat) (s : List UInt8) (hs : s.length ≤ 1099511627776)
    (hm : a.eval m = .map (some B)) (hx : a.eval x = .string (str s)) (hB : MapI w B n f) (hK : wpList Tryd.prog ops Q rest (a.put o.dst (.tuple #[.int .i64 (((f s).getD 0 : Nat) : Int), .bool (f s).isSome])) w) : wpList Tryd.prog ops Q (o :: rest) a w := by
  refine wpList_plain hg fun K' hK' => ?_
  unfold Oper.wp
  simp [execOp, hop, hm, hx, hB.look s hs, Result.andThen]
  exact hK' _ _ hK
theorem wp_putB (m x u : Operand) (hop : o.op = Op.mapUpdate 137 m x u) {K : Act → World → Prop} (B n : Nat) (g : List UInt8 → Bool) (s : List UInt8) (b : Bool) (hs : s.length ≤ 1099511627776) (hn : n < 1099511627776)
    (hm : a.eval m = .map (some B)) (hx : a.eval x = .string (str s)) (hu : a.eval u = .bool b) (hB : MapB w B n g) (hK : ∀ w', MapB w' B (n + 1) (fun y => if y = s then b else g y) → w.grownBy w' (some B) → ∀ v, K (a.put o.dst v) w') : o.wp Tryd.prog a w K Q := by
  obtain ⟨D, h1, h2⟩ := hB
  obtain ⟨w', hrun, h3, h4⟩ := h1.update kLaw Tryd.underlying137 (by unfold maxLen; omega) (keyK s hs) (plainElem_bool Tryd.underlying4 b)
  have hM : MapB w' B (n + 1) (fun y => if y = s then b else g y) := by
    refine ⟨_, h3, fun y => ?_⟩
    by_cases e : y = s
    · subst e
      rw [Maps.atKey_put_same h1.isMap (by trivial)]; simp
    · rw [Maps.atKey_put_other (by intro e2; exact e (by simpa [kl] using e2)), h2]; simp [e]
  unfold Oper.wp
  simp [execOp, hop, hm, hx, hu, hrun, Result.andThen]
  exact hK w' hM h4 _
theorem wp_putI (m x u : Operand) (hop : o.op = Op.mapUpdate 85 m x u) {K : Act → World → Prop} (B n : Nat) (f : List UInt8 → Option Nat) (s : List UInt8) (v : Nat) (hs : s.length ≤ 1099511627776) (hn : n < 1099511627776) (hv : v < 1099511627776)
    (hm : a.eval m = .map (some B)) (hx : a.eval x = .string (str s)) (hu : a.eval u = .int .i64 (v : Int)) (hB : MapI w B n f) (hK : ∀ w', MapI w' B (n + 1) (fun y => if y = s then some v else f y) → w.grownBy w' (some B) → ∀ v, K (a.put o.dst v) w') : o.wp Tryd.prog a w K Q := by
  obtain ⟨D, h1, h2⟩ := hB
  obtain ⟨w', hrun, h3, h4⟩ := h1.update kLaw Tryd.underlying85 (by unfold maxLen; omega) (keyK s hs) (plainElem_int Tryd.underlying3 (a := (v : Int)) (WalkArith.wf_i64 (by omega)))
  have hM : MapI w' B (n + 1) (fun y => if y = s then some v else f y) := by
    refine ⟨_, h3, fun y => ?_⟩
    by_cases e : y = s
    · subst e
      refine ⟨?_, fun v' hv' z => ?_⟩
      · rw [Maps.has_put_same h1.isMap (by trivial)]; simp
      · have hv2 : some v = some v' := by simpa using hv'
        cases hv2
        rw [Maps.atKey_put_same h1.isMap (by trivial)]
    · have hne : kl y ≠ kl s := by intro e2; exact e (by simpa [kl] using e2)
      refine ⟨?_, fun v' hv' z => ?_⟩
      · rw [Maps.has_put_other hne, (h2 y).1]; simp [e]
      · rw [Maps.atKey_put_other hne]; exact (h2 y).2 v' (by simpa [e] using hv') z
  unfold Oper.wp
  simp [execOp, hop, hm, hx, hu, hrun, Result.andThen]
  exact hK w' hM h4 _
end
end Conf18
end Go.Proofs.YtbcicbiphgeghaaDoor
/- conf: once. No condition. -/
namespace Go.Proofs.YtbcicbiphgeghaaDoor
open Go.RowKit Go.ChangeShapes Go.WideShapes Go.ChangeAt Go.Deep
namespace Conf18
set_option maxRecDepth 20000 in
set_option maxHeartbeats 8000000 in
theorem once_any (y : List UInt8) (hy : y.length ≤ 65536) (w : World) (x mb n : Nat) (g : List UInt8 → Bool) (hn : n < 100) (hc : w.cell? ⟨x, 11, none⟩ = some (.map (some mb))) (hM : MapB w mb n g) :
    Calls Tryd.prog 120 #[.pointer (some ⟨x, 0, none⟩), .string (str y)] w fun e w' => e = .returned (.bool (!g y)) ∧ (g y = true → w' = w) ∧ (g y = false → MapB w' mb (n + 1) (fun z => if z = y then true else g z) ∧ w.grownBy w' (some mb)) := by
  obtain ⟨b, hb⟩ : ∃ b, g y = b := ⟨_, rfl⟩
  replace hM := hide hM
  go_enter Tryd.func120, Tryd.ntmps120
  go_upto_region 1 with fail
  apply wp_region_lit
  iterate 5 (refine wpList_plain rfl fun K hK => ?_; go_simp; refine hK _ _ ?_; clear hK K)
  refine wpl_lookB rfl _ _ rfl mb n g y (by omega) rfl rfl hM.out ?_
  rw [hb]
  refine wpList_nil ?_
  go_simp
  cases b
  · go_upto_region 3 with fail
    apply wp_region_lit
    iterate 5 (refine wpList_plain rfl fun K hK => ?_; go_simp; refine hK _ _ ?_; clear hK K)
    refine wpList_plain rfl fun K hK => ?_
    refine wp_putB _ _ _ rfl mb n g y true (by omega) (by omega) rfl rfl rfl hM.out fun w2 h1 h2 v => hK _ _ ?_
    clear hK K
    replace h1 := hide h1
    replace h2 := hide h2
    refine wpList_nil ?_
    go_simp
    go_wp2_with fail
    go_ret
    exact ⟨by rw [hb]; rfl, fun h => (by rw [hb] at h; cases h), fun _ => ⟨h1.out, h2.out⟩⟩
  · go_wp2_with fail
    go_ret
    exact ⟨by rw [hb]; rfl, fun _ => rfl, fun h => (by rw [hb] at h; cases h)⟩
end Conf18
end Go.Proofs.YtbcicbiphgeghaaDoor
