/- conf: Parse. Conditions: texts of at most 2^16 bytes; the cell of bytealg.MaxLen. -/
import Derived.Test.YtcpokkkdmenmgaaDoorQConfRemarks16
import Derived.Test.YtcpokkkdmenmgaaDoorQConfRemarks11
import Derived.Test.YtcpokkkdmenmgaaDoorQConfRemarks3
import Derived.Test.YtcpokkkdmenmgaaDoorQConfRemarks13
import Derived.Test.YtcpokkkdmenmgaaDoorQConfRemarks15
import Derived.Test.YtcpokkkdmenmgaaDoorQConfRemarks10
import Derived.Test.YtcpokkkdmenmgaaDoorQConfRemarks12
namespace Go.Proofs.YtcpokkkdmenmgaaDoor
open Go.RowKit Go.ChangeShapes Go.WideShapes Go.ChangeAt Go.Deep
namespace Conf18
open Addr05
theorem alloc_ln (o : Oper) (h : o.op = .alloc 95) (ρ : Operand → Value) (w : World) : (execOp ρ o).run Tryd.prog w = .ok (.value (.pointer (some ⟨w.heap.size, 0, none⟩))) (w.alloc (.cells #[.int .i64 0, .slice none 0 0] 95)) := by
  obtain ⟨d, op, t, ps, af, g⟩ := o
  dsimp only at h
  subst h
  kernel_rfl
theorem ln_one (i : Int) (A : Option Addr) (n c : Nat) : (#[.int .i64 i, .slice A n c] : Array Value).all (·.oneCell') = true := all_oneCell_toArray (by
  intro u hu
  simp only [List.mem_cons, List.not_mem_nil, or_false] at hu
  rcases hu with rfl | rfl <;> rfl)
/-- The cells of a configuration. -/
def cfC (c : Cfg) (nv vv wv : Value) : Array Value :=
  #[nv, vv, wv, .int .i64 c.factor, .int .i64 c.domain, .bool c.s0.v6, .int .u64 (c.s0.hi : Int), .int .u64 (c.s0.lo : Int), .bool c.s1.v6, .int .u64 (c.s1.hi : Int), .int .u64 (c.s1.lo : Int)]
/-- A configuration as a value: its lists lie in memory. -/
structure CfgV (w : World) (base : Nat) (c : Cfg) (v : Array Value) : Prop where
  nodes : w.ownsRow base 72 7 (v.getD 0 undef) c.nodes.length (c.nodes.map ndC).flatten
  vips : w.ownsRow base 77 7 (v.getD 1 undef) c.vips.length (c.vips.map vpC).flatten
  views : w.ownsRow base 82 5 (v.getD 2 undef) c.views.length (c.views.map vwC).flatten
  arr : v = cfC c (v.getD 0 undef) (v.getD 1 undef) (v.getD 2 undef)
def zeroC : Cfg := ⟨[], [], [], 0, 0, zA, zA, false, false⟩
/-- What Parse, and the law's own reader, come to. -/
def ParseEnd (s : List UInt8) (w w' : World) (e : Ending) : Prop :=
  Below w.heap.size w w' ∧ ((∃ p, confF s = .error p ∧ e = .returned (.tuple #[.agg (cfC zeroC (.slice none 0 0) (.slice none 0 0) (.slice none 0 0)), .int .i64 (p.1 : Int), .int .i64 p.2])) ∨
    (∃ c v, confF s = .ok c ∧ e = .returned (.tuple #[.agg v, .int .i64 0, .int .i64 0]) ∧ CfgV w' w.heap.size c v ∧ c.small 4096))
theorem cfg_range {w : World} {base x : Nat} {T : TypeId} {e1 e2 nv vv wv : Value} {c : Cfg} (h : CfgAt w base x T e1 e2 c nv vv wv) : w.rangeAt x 0 (cfC c nv vv wv).toList := fun j v hv => by
  rw [Nat.zero_add, blk_cell h.blk j]
  have hj : j < 11 := by
    have := (List.getElem?_eq_some_iff.1 hv).1
    exact this
  have e : cfgA c nv vv wv e1 e2 = cfC c nv vv wv ++ #[e1, e2] := rfl
  rw [e, Array.getElem?_append_left (by exact hj)]
  simpa using hv
theorem row_below_g {w : World} {base g : Nat} {e : TypeId} {size n : Nat} {v : Value} {xs : List Value} (h : w.ownsRow base e size v n xs) (hg : g < base) : v.ownBlock = none ∨ v.ownBlock ≠ some g := .inr fun e => by
  have := (World.ownsRow.lt h _ e).1
  omega
def lnC (p : (Nat × List (List UInt8)) × Value) : List Value := [.int .i64 (p.1.1 : Int), p.2]
/-- A line where it lies. -/
theorem LnAt.at {w : World} {base : Nat} {v : Value} {L : List (Nat × List (List UInt8))} {vs : List Value} (h : LnAt w base v L vs) :
    ∃ A c, v = .slice A L.length c ∧ ∀ i, i < L.length → ∃ b off x A' c', A = some ⟨b, off, none⟩ ∧ b < w.heap.size ∧ L[i]? = some x ∧ w.cell? ⟨b, off + i * 2, none⟩ = some (.int .i64 (x.1 : Int)) ∧ w.cell? ⟨b, off + i * 2 + 1, none⟩ = some (.slice A' x.2.length c') ∧ IsR strv w w.heap.size A' x.2.length x.2 ∧ x.2.length ≤ c' ∧ c' ≤ maxLen := by
  obtain ⟨A, c, hv, h1, h2, h3⟩ := own_isv h.row
  refine ⟨A, c, hv, fun i hi => ?_⟩
  have hT : IsT lnC 2 w w.heap.size A L.length (L.zip vs) := ⟨by rw [List.length_zip, h.len, Nat.min_self], h3⟩
  obtain ⟨b, off, x, e, hb, hx, hcell⟩ := IsT.at (f := lnC) (size := 2) (fun _ => rfl) (by decide) hT hi
  obtain ⟨x, u⟩ := x
  have hx2 := List.getElem?_zip_eq_some.1 hx
  have ho := h.words i u x hx2.2 hx2.1
  obtain ⟨A', c', hu, k1, k2, k3⟩ := own_isv ho
  subst hu
  exact ⟨b, off, x, A', c', e, hb, hx2.1, hcell 0 _ rfl, hcell 1 _ rfl, k3, k1, k2⟩
theorem cf_one (nv vv wv : Value) (h1 : nv.oneCell' = true) (h2 : vv.oneCell' = true) (h3 : wv.oneCell' = true) (f d : Int) (a : Bool) (b c : Int) (a' : Bool) (b' c' : Int) : (#[nv, vv, wv, .int .i64 f, .int .i64 d, .bool a, .int .u64 b, .int .u64 c, .bool a', .int .u64 b', .int .u64 c'] : Array Value).all (·.oneCell') = true := all_oneCell_toArray (by
  intro u hu
  simp only [List.mem_cons, List.not_mem_nil, or_false] at hu
  rcases hu with rfl | rfl | rfl | rfl | rfl | rfl | rfl | rfl | rfl | rfl | rfl <;> first | rfl | assumption)
set_option maxRecDepth 20000 in
set_option maxHeartbeats 8000000 in
theorem confParse_any (s : List UInt8) (hs : s.length ≤ 65536) (w : World) (hm : MaxAt w) :
    Calls Tryd.prog 11 #[.string (str s)] w fun e w' => ParseEnd s w w' e := by
  have hsl := split_len 10 s
  have hsp := split_part 10 s
  obtain ⟨w0, hw0⟩ : ∃ w0, w.alloc (.cells #[.slice none 0 0, .slice none 0 0, .slice none 0 0, .int .i64 0, .int .i64 0, .bool false, .int .u64 0, .int .u64 0, .bool false, .int .u64 0, .int .u64 0] 30) = w0 := ⟨_, rfl⟩
  have hB0 : Below w.heap.size w w0 := hw0 ▸ (Below.refl _ _).alloc (Nat.le_refl _) _
  have hg0 : w0.heap[w.heap.size]? = some (.cells #[.slice none 0 0, .slice none 0 0, .slice none 0 0, .int .i64 0, .int .i64 0, .bool false, .int .u64 0, .int .u64 0, .bool false, .int .u64 0, .int .u64 0] 30 (0, 0)) := hw0 ▸ blk_new _ _ _
  have q := lines_any s hs w0 (hm.below hB0)
  unfold LinesEnd at q
  unfold ParseEnd
  obtain ⟨ps, hps⟩ : ∃ ps, splitL 10 s = ps := ⟨_, rfl⟩
  obtain ⟨r, hr⟩ : ∃ r, confF s = r := ⟨_, rfl⟩
  rw [hr]
  unfold confF at hr
  rw [hps] at q hsl hsp hr
  have hz0 : w.heap.size < w0.heap.size := lt_of_blk hg0
  clear hps
  replace q := hide q
  replace hsl := hide hsl
  replace hsp := hide hsp
  replace hr := hide hr
  replace hm := hide hm
  replace hB0 := hide hB0
  replace hg0 := hide hg0
  go_enter Tryd.func11, Tryd.ntmps11
  go_wp2_with fail
  refine q.out.mono ?_
  rintro e w1 ⟨hb1, ⟨i, x, h1, h2, h3, rfl⟩ | ⟨hall, v, vs, rfl, hL⟩⟩
  · have hE : Except.error (i + 1, lnBad i x) = r := by
      rw [← hr.out]
      have := lexE_some ps 0 i x h1 (by rw [Nat.zero_add]; exact h2) (fun j y hj hy => by rw [Nat.zero_add]; exact h3 j y hj hy)
      rw [Nat.zero_add] at this
      rw [this]
    have hBE : (lnBad i x != 0) = true := by rw [bne_iff_ne]; exact h2
    have hb2 := hB0.out.trans (hb1.mono (by omega))
    have hg1 := blk_below hb1 hz0 hg0.out
    clear hr h1 h2 h3 q hB0 hg0 hb1
    obtain ⟨en, hen⟩ : ∃ en, lnBad i x = en := ⟨_, rfl⟩
    rw [hen] at hE hBE ⊢
    obtain ⟨no, hno⟩ : ∃ no, i + 1 = no := ⟨_, rfl⟩
    rw [hno] at hE ⊢
    clear hen hno
    replace hE := hide hE
    replace hb2 := hide hb2
    replace hg1 := hide hg1
    go_upto_region 3 with fail
    apply wp_region_lit
    iterate 3 (refine wpList_plain rfl fun K hK => ?_; go_simp; refine hK _ _ ?_; clear hK K)
    refine wpl_st rfl 30 (.tmp 2) (.tmp 20) rfl (w.heap.size) 0 rfl (#[.slice none 0 0, .slice none 0 0, .slice none 0 0, .int .i64 0, .int .i64 0, .bool false, .int .u64 0, .int .u64 0, .bool false, .int .u64 0, .int .u64 0]) rfl hg1.out (by simp) (by kernel_rfl) (cf_one _ _ _ rfl rfl rfl _ _ _ _ _ _ _ _) fun w9 hg9 g9 => ?_
    rw [putA_whole _ _ (by rfl)] at hg9
    have hb9 : Below (w.heap.size) w w9 := (hb2.out).trans (below_grown g9 (by have := (hb2.out).size; omega) (Nat.le_refl _))
    have hld : (loadVar 30 ⟨w.heap.size, 0, none⟩).run Tryd.prog w9 = .ok (.agg (#[.slice none 0 0, .slice none 0 0, .slice none 0 0, .int .i64 0, .int .i64 0, .bool false, .int .u64 0, .int .u64 0, .bool false, .int .u64 0, .int .u64 0])) w9 := by
      simpa using run_loadVar_mid w9 (w.heap.size) 0 30 (#[.slice none 0 0, .slice none 0 0, .slice none 0 0, .int .i64 0, .int .i64 0, .bool false, .int .u64 0, .int .u64 0, .bool false, .int .u64 0, .int .u64 0]).toList _ (blk_range hg9) Tryd.underlying30 rfl (by kernel_rfl)
    clear hg9 g9
    replace hld := hide hld
    replace hb9 := hide hb9
    iterate 2 (refine wpList_plain rfl fun K hK => ?_; go_simp; refine hK _ _ ?_; clear hK K)
    refine wpList_nil ?_
    go_simp
    go_wp2_with fail
    exact bodyPost_ret (v := .tuple #[.agg #[.slice none 0 0, .slice none 0 0, .slice none 0 0, .int .i64 0, .int .i64 0, .bool false, .int .u64 0, .int .u64 0, .bool false, .int .u64 0, .int .u64 0], .int .i64 (no : Int), .int .i64 en]) (by simp [results, Tryd.results11, asAddr, hld.out, Result.andThen]) rfl ⟨hb9.out, .inl ⟨(no, en), hE.out.symm, rfl⟩⟩
  · have hlex : lexE 0 ps = none := lexE_none ps 0 (fun j y hy => by rw [Nat.zero_add]; exact hall j y hy)
    have hr2 := hr.out
    rw [hlex] at hr2
    dsimp only at hr2
    have hwd := lnA_words ps 65536 (fun x hx => Nat.le_trans (hsp.out x hx) hs) ps.length
    have hln := lnA_len ps ps.length
    have hps4 : ps.length ≤ 4096 := by
      rcases Nat.lt_or_ge 4096 ps.length with h4 | h4
      · have := hall 4096 _ (List.getElem?_eq_getElem h4)
        unfold lnBad at this
        rw [if_pos (Nat.le_refl _)] at this
        cases this
      · exact h4
    obtain ⟨L, hLL⟩ : ∃ L, lnA ps ps.length = L := ⟨_, rfl⟩
    rw [hLL] at hr2 hwd hln hL
    obtain ⟨Av, cv, rfl, hat⟩ := hL.at
    obtain ⟨n, hn⟩ : ∃ n, L.length = n := ⟨_, rfl⟩
    rw [hn] at hat hln
    have hn4 : n ≤ 4096 := by omega
    have hb2 := hB0.out.trans (hb1.mono (by omega))
    have hg1 := blk_below hb1 hz0 hg0.out
    have hm1 := hm.out.below hb2
    have hz1 := hb1.size
    rw [hn]
    clear hr q hall hlex hLL hL hln hps4 hB0 hg0 hb1 hsl hsp
    replace hr2 := hide hr2
    replace hwd := hide hwd
    replace hat := hide hat
    replace hb2 := hide hb2
    replace hg1 := hide hg1
    replace hm1 := hide hm1
    replace hn := hide hn
    have hmm := @run_makeMap Tryd.prog
    obtain ⟨base, hbase⟩ : ∃ b, w1.heap.size = b := ⟨_, rfl⟩
    obtain ⟨x, hx⟩ : ∃ x, base + 1 + 1 = x := ⟨_, rfl⟩
    obtain ⟨w2, hw2⟩ : ∃ w2, (w1.alloc (.map #[] 0)).alloc (.map #[] 0) = w2 := ⟨_, rfl⟩
    obtain ⟨w3, hw3⟩ : ∃ w3, w2.alloc (.cells #[.slice none 0 0, .slice none 0 0, .slice none 0 0, .int .i64 140, .int .i64 2, .bool false, .int .u64 0, .int .u64 0, .bool false, .int .u64 0, .int .u64 0, .map (some base), .map (some (base + 1))] 93) = w3 := ⟨_, rfl⟩
    have hb3 : Below base w1 w3 := by
      rw [← hbase]
      rw [← hw3, ← hw2]
      exact (((Below.refl _ _).alloc (Nat.le_refl _) _).alloc (by simp) _).alloc (by simp; omega) _
    have hz2 : w2.heap.size = base + 1 + 1 := by rw [← hw2, ← hbase]; simp
    have hz3 : w3.heap.size = base + 1 + 1 + 1 := by rw [← hw3, World.size_alloc, hz2]
    have hR0 : RdC w3 base (x) base (base + 1) startC (.slice none 0 0) (.slice none 0 0) (.slice none 0 0) := by
      have hg : w3.heap[x]? = some (.cells (cfgA startC (.slice none 0 0) (.slice none 0 0) (.slice none 0 0) (.map (some base)) (.map (some (base + 1)))) 93 (0, 0)) := by
        rw [← hw3, ← hx, ← hz2]
        exact blk_new _ _ _
      refine ⟨⟨hg, by omega, by decide, World.ownsRow_nil _ _ _ _, World.ownsRow_nil _ _ _ _, World.ownsRow_nil _ _ _ _⟩, Nat.le_refl _, by omega, by omega, ?_, ?_⟩
      · have h1 := MapB.made w1
        rw [hbase] at h1
        have e : seenF startC = fun _ => false := by
          funext z
          unfold seenF startC
          simp
        rw [e]
        have g1 : w1.alloc (.map #[] 0) |>.grownBy w2 none := by
          rw [← hw2]
          exact ⟨rfl, rfl, rfl, by simp, fun k hk _ => Below.heap_alloc _ _ k hk⟩
        have g2 : w2.grownBy w3 none := by
          rw [← hw3]
          exact ⟨rfl, rfl, rfl, by simp, fun k hk _ => Below.heap_alloc _ _ k hk⟩
        exact (h1.kept g1 (by simp)).kept g2 (by simp)
      · have h1 := MapI.made (w1.alloc (.map #[] 0))
        rw [hw2] at h1
        rw [show (w1.alloc (.map #[] 0)).heap.size = base + 1 by simp [hbase]] at h1
        have g2 : w2.grownBy w3 none := by
          rw [← hw3]
          exact ⟨rfl, rfl, rfl, by simp, fun k hk _ => Below.heap_alloc _ _ k hk⟩
        exact h1.kept g2 (by simp)
    replace hb3 := hide hb3
    replace hR0 := hide hR0
    go_upto_region 5 with fail
    clear hw2 hw3 hmm
    go_wp2_with fail
    go_loopw [10, 11, 30] (fun _ _ iv wr => ∃ (i : Nat) (c : Cfg), i ≤ n ∧ iv = .int .i64 (i : Int) ∧ linesF startC (L.take i) = .ok c ∧ c.small i ∧ RdAt base x wr c ∧ Below base w1 wr) (fun _ _ iv _ => n - (intOf iv).toNat)
    case atStart => exact ⟨0, startC, by omega, rfl, rfl, ⟨Nat.le_refl _, Nat.le_refl _, Nat.le_refl _⟩, ⟨_, _, _, _, _, hR0.out⟩, hb3.out⟩
    case round =>
      obtain ⟨i, c, hi, rfl, hlf, hcs, hRd, hbr⟩ := hrel
      by_cases hin : i < n
      · have hlt : (i : Int) < (n : Int) := by omega
        obtain ⟨b, off, lx, A', c', rfl, hbk, hLi, k0, k1, hW, hwc, hcm⟩ := hat.out i hin
        rw [hbase] at hW hbk
        have k0' := (hbr.cell (p := ⟨b, off + i * 2, none⟩) hbk).trans k0
        have k1' := (hbr.cell (p := ⟨b, off + i * 2 + 1, none⟩) hbk).trans k1
        obtain ⟨hne, hwl⟩ := hwd.out lx (List.mem_of_getElem? hLi)
        have hzr := hbr.size
        have hWr := IsV.below hW hbr
        clear k0 k1 hW
        replace hlf := hide hlf
        replace hcs := hide hcs
        replace hRd := hide hRd
        replace hbr := hide hbr
        replace hLi := hide hLi
        replace hne := hide hne
        replace hwl := hide hwl
        replace hWr := hide hWr
        go_upto_region 7 with fail
        apply wp_region_lit
        iterate 2 (refine wpList_plain rfl fun K hK => ?_; go_simp; refine hK _ _ ?_; clear hK K)
        refine wpl_new rfl rfl 95 _ (alloc_ln _ rfl) 10 rfl (.tmp 33) rfl _ (fun _ => rfl) (fun _ => rfl) rfl (by kernel_rfl) (ln_one (lx.1 : Int) A' lx.2.length c') ?_
        intro w4 hg4 hb4 hz4
        refine wpList_nil ?_
        go_simp
        clear k0' k1'
        have hR4 : RdAt base x w4 c := by
          obtain ⟨mb, ma, nv, vv, wv, h⟩ := hRd.out
          exact ⟨mb, ma, nv, vv, wv, h.on hb4⟩
        have hm4 := (hm1.out.below (by rw [hbase]; exact hbr.out)).below hb4
        have hb4' := hb4.mono (B' := base) (by omega)
        have q5 := line_any lx.2 c w4 base x c' A' (IsV.below hWr.out hb4') (by
          have := hne.out
          rcases h : lx.2 with _ | ⟨y, l⟩
          · exact absurd h this
          · simp) hwc hcm hwl.out hm4 ⟨by have := hcs.out.1; omega, by have := hcs.out.2.1; omega, by have := hcs.out.2.2; omega⟩ hR4
        have hbr4 := hbr.out.trans hb4'
        have hgc := blk_cell hg4
        clear hR4 hm4 hWr hRd hbr hne hwl
        replace q5 := hide q5
        replace hg4 := hide hg4
        replace hbr4 := hide hbr4
        replace hb4' := hide hb4'
        go_wp2_with fail
        refine (q5.out).mono ?_
        rintro e w5 (⟨m, hr1, h0, rfl, hb5⟩ | ⟨c1, hr1, rfl, hP, hb5⟩)
        · have hlf2 := linesF_err hLi.out hlf.out hr1
          have hE : Except.error (lx.1, (m : Int)) = r := by
            rw [← hr2.out, hlf2]
          have hg5 := blk_below hb5 hz4 hg4.out
          have hz5 := hb5.size
          have hbr5 := hbr4.out.trans (hb5.mono (by omega))
          have t : ((m : Int) != 0) = true := by rw [bne_iff_ne]; omega
          clear hr2 hlf2 q5 hb5 hgc hr1
          replace hE := hide hE
          replace hg5 := hide hg5
          replace hbr5 := hide hbr5
          go_upto_region 10 with fail
          refine wp_region_X (KeptS w5.heap.size (fun k => k = w.heap.size)) (by as_aux_lemma => kernel_rfl) ?_
          intro w6 hbd
          have hb6 := hbr5.out.trans (hbd.mono (by omega))
          have hg6 := blk_below hb6 (by omega) hg1.out
          have lz := fun l : RelW (KeptS w5.heap.size (fun k => k = w.heap.size)) w6 => blk_cell ((l.hk.block wr.heap.size (by omega) (by omega)).trans (blk_below hbd (by omega) hg5.out))
          have hz6 := hbd.size
          clear hg5 hbd hbr5
          replace hb6 := hide hb6
          replace hg6 := hide hg6
          refine wpX_seg (KeptS w5.heap.size (fun k => k = w.heap.size)) 0 4 (fuel := 3) (by as_aux_lemma => kernel_rfl) (fun d _ _ _ _ h => by cases d <;> exact h) (by as_aux_lemma => kernel_rfl) (by as_aux_lemma => kernel_rfl) ?_
          simp only [List.drop_zero, List.take_succ_cons, List.take_zero]
          iterate 4 (refine wpQX_step (fun K hK => ?_); go_simp; refine hK _ ?_; clear hK K)
          refine wpQF_nil ?_
          clear lz
          refine wpF_step 4 rfl (by as_aux_lemma => kernel_rfl) (fun K hK => ?_)
          rw [if_pos (by unfold Region.wanted; rfl)]
          refine wp_st 30 (.tmp 2) (.tmp 40) rfl w.heap.size 0 rfl #[.slice none 0 0, .slice none 0 0, .slice none 0 0, .int .i64 0, .int .i64 0, .bool false, .int .u64 0, .int .u64 0, .bool false, .int .u64 0, .int .u64 0] rfl hg6.out (by simp) (by kernel_rfl) (cf_one _ _ _ rfl rfl rfl _ _ _ _ _ _ _ _) fun w9 hg9 g9 => ?_
          refine hK _ _ (Pkt.keptS_grown1 g9 hz6 rfl) ?_
          clear hK K
          rw [putA_whole _ _ (by rfl)] at hg9
          have hb9 : Below w.heap.size w w9 := (hb2.out.trans (hb6.out.mono (by omega))).trans (below_grown g9 (by omega) (Nat.le_refl _))
          have hld : (loadVar 30 ⟨w.heap.size, 0, none⟩).run Tryd.prog w9 = .ok (.agg #[.slice none 0 0, .slice none 0 0, .slice none 0 0, .int .i64 0, .int .i64 0, .bool false, .int .u64 0, .int .u64 0, .bool false, .int .u64 0, .int .u64 0]) w9 := by
            simpa using run_loadVar_mid w9 w.heap.size 0 30 (#[.slice none 0 0, .slice none 0 0, .slice none 0 0, .int .i64 0, .int .i64 0, .bool false, .int .u64 0, .int .u64 0, .bool false, .int .u64 0, .int .u64 0] : Array Value).toList _ (blk_range hg9) Tryd.underlying30 rfl (by kernel_rfl)
          clear hg9 g9
          replace hld := hide hld
          replace hb9 := hide hb9
          refine wpF_step 5 rfl (by as_aux_lemma => kernel_rfl) (fun K hK => ?_)
          go_simp
          refine hK _ _ (IsRel.refl _) ?_
          clear hK K
          refine wpF_step 6 rfl (by as_aux_lemma => kernel_rfl) (fun K hK => ?_)
          go_simp
          refine hK _ _ (IsRel.refl _) ?_
          clear hK K
          refine wpF_done (by as_aux_lemma => kernel_rfl) ?_ 0
          go_wp2_with fail
          exact bodyPost_ret (v := .tuple #[.agg #[.slice none 0 0, .slice none 0 0, .slice none 0 0, .int .i64 0, .int .i64 0, .bool false, .int .u64 0, .int .u64 0, .bool false, .int .u64 0, .int .u64 0], .int .i64 (lx.1 : Int), .int .i64 (m : Int)]) (by simp [results, Tryd.results11, asAddr, hld.out, Result.andThen]) rfl ⟨hb9.out, .inl ⟨(lx.1, (m : Int)), hE.out.symm, rfl⟩⟩
        · have hlf2 := linesF_next hLi.out hlf.out hr1
          have hs2 := lineF_small hcs.out hr1
          have hbr5 := hbr4.out.trans hb5
          clear q5 hb5 hgc hr1 hlf hcs hbr4
          replace hlf2 := hide hlf2
          replace hs2 := hide hs2
          replace hbr5 := hide hbr5
          replace hP := hide hP
          go_wp2_with fail
          exact ⟨⟨i + 1, c1, by omega, by first | rfl | go_num, hlf2.out, hs2.out, hP.out, hbr5.out⟩, by simp only [intOf]; omega⟩
      · obtain rfl : i = n := by omega
        have hlt : ((i : Int) < (i : Int)) = False := by simp
        have hLn : L.take i = L := List.take_of_length_le (by rw [hn.out]; exact Nat.le_refl _)
        rw [hLn] at hlf
        have hE : Except.ok c = r := by rw [← hr2.out, hlf]
        obtain ⟨mb, ma, nv, vv, wv, h⟩ := hRd
        obtain ⟨An, cn, hnv, -, -, -⟩ := own_isv h.cfg.nodes
        obtain ⟨Av2, cv2, hvv, -, -, -⟩ := own_isv h.cfg.vips
        obtain ⟨Aw, cw, hwv, -, -, -⟩ := own_isv h.cfg.views
        subst hnv hvv hwv
        have hrg := cfg_range h.cfg
        have hgr := blk_below hbr (by omega) hg1.out
        have hbw := hb2.out.trans (hbr.mono (by omega))
        have hzr := hbr.size
        clear hr2 hLn hlf
        replace h := hide h
        replace hE := hide hE
        replace hgr := hide hgr
        replace hbw := hide hbw
        replace hrg := hide hrg
        replace hcs := hide hcs
        go_upto_region 12 with fail
        apply wp_region_lit
        iterate 3 (refine wpList_plain rfl fun K hK => ?_; go_simp; refine hK _ _ ?_; clear hK K)
        refine wpList_load_mid rfl 30 (.tmp 47) rfl x 0 rfl _ _ hrg.out Tryd.underlying30 rfl (by kernel_rfl) ?_
        simp only [Array.toArray_toList]
        refine wpl_st rfl 30 (.tmp 2) (.tmp 48) rfl w.heap.size 0 rfl (cfC c (.slice An c.nodes.length cn) (.slice Av2 c.vips.length cv2) (.slice Aw c.views.length cw)) rfl hgr.out (Nat.le_refl 11) (by kernel_rfl) (cf_one _ _ _ rfl rfl rfl _ _ _ _ _ _ _ _) fun w9 hg9 g9 => ?_
        rw [putA_whole _ _ (by rfl)] at hg9
        have hb9 : Below w.heap.size w w9 := hbw.out.trans (below_grown g9 (by omega) (Nat.le_refl _))
        have hR9 := h.out.cfg
        have hv : CfgV w9 w.heap.size c (cfC c (.slice An c.nodes.length cn) (.slice Av2 c.vips.length cv2) (.slice Aw c.views.length cw)) :=
          ⟨row_weaken (World.ownsRow.kept hR9.nodes g9 (row_below_g hR9.nodes (by omega))) (by omega), row_weaken (World.ownsRow.kept hR9.vips g9 (row_below_g hR9.vips (by omega))) (by omega), row_weaken (World.ownsRow.kept hR9.views g9 (row_below_g hR9.views (by omega))) (by omega), rfl⟩
        have hld : (loadVar 30 ⟨w.heap.size, 0, none⟩).run Tryd.prog w9 = .ok (.agg (cfC c (.slice An c.nodes.length cn) (.slice Av2 c.vips.length cv2) (.slice Aw c.views.length cw))) w9 := by
          simpa using run_loadVar_mid w9 w.heap.size 0 30 (cfC c (.slice An c.nodes.length cn) (.slice Av2 c.vips.length cv2) (.slice Aw c.views.length cw)).toList _ (blk_range hg9) Tryd.underlying30 rfl (by kernel_rfl)
        clear hg9 g9 hR9
        replace hld := hide hld
        replace hb9 := hide hb9
        replace hv := hide hv
        iterate 2 (refine wpList_plain rfl fun K hK => ?_; go_simp; refine hK _ _ ?_; clear hK K)
        refine wpList_nil ?_
        go_simp
        go_wp2_with fail
        exact bodyPost_ret (v := .tuple #[.agg (cfC c (.slice An c.nodes.length cn) (.slice Av2 c.vips.length cv2) (.slice Aw c.views.length cw)), .int .i64 0, .int .i64 0]) (by simp [results, Tryd.results11, asAddr, hld.out, Result.andThen]) rfl ⟨hb9.out, .inr ⟨c, _, hE.out.symm, rfl, hv.out, by have := hcs.out; exact ⟨by have := this.1; omega, by have := this.2.1; omega, by have := this.2.2; omega⟩⟩⟩
end Conf18
end Go.Proofs.YtcpokkkdmenmgaaDoor
/- conf, the law's own reader in memory: what each change leaves. No condition. -/
namespace Go.Proofs.YtcpokkkdmenmgaaDoor
open Go.RowKit Go.ChangeShapes Go.WideShapes Go.ChangeAt Go.Deep
namespace Conf18
open Addr05 (Adr strv MaxAt)
section
variable {w w' : World} {base x mb ma : Nat} {nv vv wv nv' : Value} {c c' : Cfg}
end
end Conf18
end Go.Proofs.YtcpokkkdmenmgaaDoor
/- conf, the law: find: the place of a name. No condition. -/
namespace Go.Proofs.YtcpokkkdmenmgaaDoor
open Go.RowKit Go.ChangeShapes Go.WideShapes Go.ChangeAt Go.Deep
namespace Conf18
open Addr05
def findI (o : Option Nat) : Int := match o with | some k => (k : Int) | none => -1
end Conf18
end Go.Proofs.YtcpokkkdmenmgaaDoor
/- conf, the law: node: a line of 2 words, of kind 1. Conditions: words of at most 2^16 bytes. -/
namespace Go.Proofs.YtcpokkkdmenmgaaDoor
open Go.RowKit Go.ChangeShapes Go.WideShapes Go.ChangeAt Go.Deep
namespace Conf18
open Addr05
end Conf18
end Go.Proofs.YtcpokkkdmenmgaaDoor
/- conf, the law: node: a line of 3 words, of kind 2. Conditions: words of at most 2^16 bytes. -/
namespace Go.Proofs.YtcpokkkdmenmgaaDoor
open Go.RowKit Go.ChangeShapes Go.WideShapes Go.ChangeAt Go.Deep
namespace Conf18
open Addr05
end Conf18
end Go.Proofs.YtcpokkkdmenmgaaDoor
/- conf, the law: node: a line of 3 words, of kind 3. Conditions: words of at most 2^16 bytes. -/
namespace Go.Proofs.YtcpokkkdmenmgaaDoor
open Go.RowKit Go.ChangeShapes Go.WideShapes Go.ChangeAt Go.Deep
namespace Conf18
open Addr05
end Conf18
end Go.Proofs.YtcpokkkdmenmgaaDoor
/- conf, the law: node: a line of 4 words, of kind 2. Conditions: words of at most 2^16 bytes. -/
namespace Go.Proofs.YtcpokkkdmenmgaaDoor
open Go.RowKit Go.ChangeShapes Go.WideShapes Go.ChangeAt Go.Deep
namespace Conf18
open Addr05
end Conf18
end Go.Proofs.YtcpokkkdmenmgaaDoor
/- conf, the law: node: a line of 4 words, of kind 3. Conditions: words of at most 2^16 bytes. -/
namespace Go.Proofs.YtcpokkkdmenmgaaDoor
open Go.RowKit Go.ChangeShapes Go.WideShapes Go.ChangeAt Go.Deep
namespace Conf18
open Addr05
end Conf18
end Go.Proofs.YtcpokkkdmenmgaaDoor
/- conf, the law: node: a line of 5 words, of kind 4. Conditions: words of at most 2^16 bytes. -/
namespace Go.Proofs.YtcpokkkdmenmgaaDoor
open Go.RowKit Go.ChangeShapes Go.WideShapes Go.ChangeAt Go.Deep
namespace Conf18
open Addr05
end Conf18
end Go.Proofs.YtcpokkkdmenmgaaDoor
/- conf, the law: vip: a line that says which address is balanced. Conditions: words of at most 2^16 bytes. -/
namespace Go.Proofs.YtcpokkkdmenmgaaDoor
open Go.RowKit Go.ChangeShapes Go.WideShapes Go.ChangeAt Go.Deep
namespace Conf18
open Addr05
end Conf18
end Go.Proofs.YtcpokkkdmenmgaaDoor
/- conf, the law: view: a line that says where sources begin. Conditions: words of at most 2^16 bytes. -/
namespace Go.Proofs.YtcpokkkdmenmgaaDoor
open Go.RowKit Go.ChangeShapes Go.WideShapes Go.ChangeAt Go.Deep
namespace Conf18
open Addr05
end Conf18
end Go.Proofs.YtcpokkkdmenmgaaDoor
/- conf, the law: self: a line that says from which address packets are sent. Conditions: words of at most 2^16 bytes. -/
namespace Go.Proofs.YtcpokkkdmenmgaaDoor
open Go.RowKit Go.ChangeShapes Go.WideShapes Go.ChangeAt Go.Deep
namespace Conf18
open Addr05
end Conf18
end Go.Proofs.YtcpokkkdmenmgaaDoor
/- conf, the law: line: one of the lines. Conditions: words of at most 2^16 bytes. -/
namespace Go.Proofs.YtcpokkkdmenmgaaDoor
open Go.RowKit Go.ChangeShapes Go.WideShapes Go.ChangeAt Go.Deep
namespace Conf18
open Addr05
theorem lfour_words {α : Type} {l : List α} (h : l.length = 4) : ∃ a b c d, l = [a, b, c, d] := by
  match l, h with
  | [a, b, c, d], _ => exact ⟨a, b, c, d, rfl⟩
theorem lfive_words {α : Type} {l : List α} (h : l.length = 5) : ∃ a b c d e, l = [a, b, c, d, e] := by
  match l, h with
  | [a, b, c, d, e], _ => exact ⟨a, b, c, d, e, rfl⟩
end Conf18
end Go.Proofs.YtcpokkkdmenmgaaDoor
/- conf, the law: parsed. Conditions: texts of at most 2^16 bytes; the cell of bytealg.MaxLen. -/
namespace Go.Proofs.YtcpokkkdmenmgaaDoor
open Go.RowKit Go.ChangeShapes Go.WideShapes Go.ChangeAt Go.Deep
namespace Conf18
open Addr05
theorem kept_cell {S : Nat} {P : Nat → Prop} {w w' : World} (h : KeptS S P w w') {p : Addr} (hp : p.block < S) (hn : ¬ P p.block) : w'.cell? p = w.cell? p := World.cell?_of_block (w := w) (h.block p.block hp hn)
theorem lnA_count (ps : List (List UInt8)) (M : Nat) (h : ∀ x ∈ ps, x.length ≤ M) : ∀ i, ∀ p ∈ lnA ps i, p.2.length ≤ M + 1
  | 0, p, hp => by cases hp
  | i + 1, p, hp => by
    have ih := lnA_count ps M h i
    unfold lnA at hp
    split at hp
    · exact ih p hp
    · rename_i x hx
      split at hp
      · exact ih p hp
      · rcases List.mem_append.1 hp with h1 | h1
        · exact ih p h1
        · rw [List.mem_singleton] at h1
          subst h1
          have h3 := (cut_len x [35]).1
          have h4 := h x (List.mem_of_getElem? hx)
          have h5 := wAt_len (Lib.cut x [35]).1 ((Lib.cut x [35]).1.length + 1)
          show (lnW x).length ≤ M + 1
          unfold lnW wordsF
          omega
end Conf18
end Go.Proofs.YtcpokkkdmenmgaaDoor
/- conf, the law: same: two configurations that are one. No condition. -/
namespace Go.Proofs.YtcpokkkdmenmgaaDoor
open Go.RowKit Go.ChangeShapes Go.WideShapes Go.ChangeAt Go.Deep
namespace Conf18
open Addr05
/-- A configuration as a value that was there. -/
structure CfgR (w : World) (B : Nat) (c : Cfg) (A1 A2 A3 : Option Addr) (k1 k2 k3 : Nat) : Prop where
  nodes : IsT ndC 7 w B A1 c.nodes.length c.nodes
  vips : IsT vpC 7 w B A2 c.vips.length c.vips
  views : IsT vwC 5 w B A3 c.views.length c.views
theorem CfgV.open {w : World} {base : Nat} {c : Cfg} {v : Array Value} (h : CfgV w base c v) : ∃ A1 A2 A3 k1 k2 k3, v = cfC c (.slice A1 c.nodes.length k1) (.slice A2 c.vips.length k2) (.slice A3 c.views.length k3) ∧ CfgR w w.heap.size c A1 A2 A3 k1 k2 k3 := by
  obtain ⟨A1, k1, e1, -, -, h1⟩ := own_isv h.nodes
  obtain ⟨A2, k2, e2, -, -, h2⟩ := own_isv h.vips
  obtain ⟨A3, k3, e3, -, -, h3⟩ := own_isv h.views
  have := h.arr
  rw [e1, e2, e3] at this
  exact ⟨A1, A2, A3, k1, k2, k3, this, ⟨rfl, h1⟩, ⟨rfl, h2⟩, ⟨rfl, h3⟩⟩
theorem CfgR.on {w w' : World} {c : Cfg} {A1 A2 A3 : Option Addr} {k1 k2 k3 : Nat} (h : CfgR w w.heap.size c A1 A2 A3 k1 k2 k3) (hb : Below w.heap.size w w') : CfgR w' w'.heap.size c A1 A2 A3 k1 k2 k3 := ⟨h.nodes.on hb, h.vips.on hb, h.views.on hb⟩
theorem CfgV.on {w w' : World} {base : Nat} {c : Cfg} {v : Array Value} (h : CfgV w base c v) (hb : Below w.heap.size w w') : CfgV w' base c v := ⟨row_on h.nodes hb, row_on h.vips hb, row_on h.views hb, h.arr⟩
theorem CfgV.zero (w : World) (base : Nat) : CfgV w base zeroC (cfC zeroC (.slice none 0 0) (.slice none 0 0) (.slice none 0 0)) := ⟨World.ownsRow_nil _ _ _ _, World.ownsRow_nil _ _ _ _, World.ownsRow_nil _ _ _ _, rfl⟩
set_option maxRecDepth 20000 in
set_option maxHeartbeats 16000000 in
theorem same_any (c : Cfg) (hs : c.small 4096) (w : World) (A1 A2 A3 B1 B2 B3 : Option Addr) (k1 k2 k3 j1 j2 j3 : Nat) (ha : CfgR w w.heap.size c A1 A2 A3 k1 k2 k3) (hb : CfgR w w.heap.size c B1 B2 B3 j1 j2 j3) :
    Calls Tryd.prog 12 #[.agg (cfC c (.slice A1 c.nodes.length k1) (.slice A2 c.vips.length k2) (.slice A3 c.views.length k3)), .agg (cfC c (.slice B1 c.nodes.length j1) (.slice B2 c.vips.length j2) (.slice B3 c.views.length j3))] w fun e w' => e = .returned (.bool true) ∧ Below w.heap.size w w' := by
  obtain ⟨n1, hn1⟩ : ∃ n, c.nodes.length = n := ⟨_, rfl⟩
  obtain ⟨n2, hn2⟩ : ∃ n, c.vips.length = n := ⟨_, rfl⟩
  obtain ⟨n3, hn3⟩ : ∃ n, c.views.length = n := ⟨_, rfl⟩
  obtain ⟨hs1, hs2, hs3⟩ := hs
  obtain ⟨p1, p2, p3⟩ := ha
  obtain ⟨q1, q2, q3⟩ := hb
  rw [hn1] at hs1 p1 q1 ⊢
  rw [hn2] at hs2 p2 q2 ⊢
  rw [hn3] at hs3 p3 q3 ⊢
  clear hn1 hn2 hn3
  obtain ⟨ns, hns⟩ : ∃ l, c.nodes = l := ⟨_, rfl⟩
  obtain ⟨vs, hvs⟩ : ∃ l, c.vips = l := ⟨_, rfl⟩
  obtain ⟨ws, hws⟩ : ∃ l, c.views = l := ⟨_, rfl⟩
  rw [hns] at p1 q1
  rw [hvs] at p2 q2
  rw [hws] at p3 q3
  obtain ⟨F, hF⟩ : ∃ x, c.factor = x := ⟨_, rfl⟩
  obtain ⟨D, hD⟩ : ∃ x, c.domain = x := ⟨_, rfl⟩
  obtain ⟨⟨s0v, s0h, s0l⟩, hs0⟩ : ∃ x, c.s0 = x := ⟨_, rfl⟩
  obtain ⟨⟨s1v, s1h, s1l⟩, hs1'⟩ : ∃ x, c.s1 = x := ⟨_, rfl⟩
  unfold cfC
  rw [hF, hD, hs0, hs1']
  dsimp only
  clear hF hD hs0 hs1' hns hvs hws
  obtain ⟨w1, hw1⟩ : ∃ w1, w.alloc (.cells #[.slice A1 n1 k1, .slice A2 n2 k2, .slice A3 n3 k3, .int .i64 F, .int .i64 D, .bool s0v, .int .u64 (s0h : Int), .int .u64 (s0l : Int), .bool s1v, .int .u64 (s1h : Int), .int .u64 (s1l : Int)] 30) = w1 := ⟨_, rfl⟩
  have hb1 : Below w.heap.size w w1 := hw1 ▸ (Below.refl _ _).alloc (Nat.le_refl _) _
  have hg1 : w1.heap[w.heap.size]? = some (.cells #[.slice A1 n1 k1, .slice A2 n2 k2, .slice A3 n3 k3, .int .i64 F, .int .i64 D, .bool s0v, .int .u64 (s0h : Int), .int .u64 (s0l : Int), .bool s1v, .int .u64 (s1h : Int), .int .u64 (s1l : Int)] 30 (0, 0)) := hw1 ▸ blk_new _ _ _
  have hz1 : w1.heap.size = w.heap.size + 1 := by rw [← hw1]; simp
  obtain ⟨w2, hw2⟩ : ∃ w2, w1.alloc (.cells #[.slice B1 n1 j1, .slice B2 n2 j2, .slice B3 n3 j3, .int .i64 F, .int .i64 D, .bool s0v, .int .u64 (s0h : Int), .int .u64 (s0l : Int), .bool s1v, .int .u64 (s1h : Int), .int .u64 (s1l : Int)] 30) = w2 := ⟨_, rfl⟩
  have hb2' : Below w1.heap.size w1 w2 := hw2 ▸ (Below.refl _ _).alloc (Nat.le_refl _) _
  have hg2 : w2.heap[w1.heap.size]? = some (.cells #[.slice B1 n1 j1, .slice B2 n2 j2, .slice B3 n3 j3, .int .i64 F, .int .i64 D, .bool s0v, .int .u64 (s0h : Int), .int .u64 (s0l : Int), .bool s1v, .int .u64 (s1h : Int), .int .u64 (s1l : Int)] 30 (0, 0)) := by
    rw [← hw2]
    exact blk_new _ _ _
  have hz2 : w2.heap.size = w.heap.size + 2 := by rw [← hw2]; simp [hz1]
  have hg1b := blk_below hb2' (by omega) hg1
  have hbw := hb1.trans (hb2'.mono (by omega))
  obtain ⟨S, hS⟩ : ∃ S, w.heap.size = S := ⟨_, rfl⟩
  obtain ⟨S2, hS2⟩ : ∃ S2, w1.heap.size = S2 := ⟨_, rfl⟩
  rw [hS] at hg1b hz1 hz2 hbw p1 p2 p3 q1 q2 q3
  rw [hS2] at hg2 hz1
  have hlw : S + 2 ≤ w2.heap.size := by omega
  have hss : S < S2 := by omega
  have hss2 : S2 < w2.heap.size := by omega
  clear hb1 hb2' hg1 hz1 hz2
  have hbF : Below w.heap.size w w2 := by rw [hS]; exact hbw
  replace p1 := hide p1
  replace p2 := hide p2
  replace p3 := hide p3
  replace q1 := hide q1
  replace q2 := hide q2
  replace q3 := hide q3
  replace hbw := hide hbw
  replace hbF := hide hbF
  replace hg1b := hide hg1b
  replace hg2 := hide hg2
  go_enter Tryd.func12, Tryd.ntmps12
  go_upto_region 1 with fail
  clear hw1 hw2
  have hgA := blk_cell hg1b.out
  have hgB := blk_cell hg2.out
  have heq := eq_selfs s0v (s0h : Int) (s0l : Int) s1v (s1h : Int) (s1l : Int)
  go_wp2_with fail
  clear hgA hgB heq
  go_loopw [4, 5] (fun _ iv wr => ∃ i : Nat, i ≤ n1 ∧ iv = .int .i64 (i : Int) ∧ Below w2.heap.size w2 wr) (fun _ iv _ => n1 - (intOf iv).toNat)
  case atStart => exact ⟨0, by omega, rfl, Below.refl _ _⟩
  case round =>
    obtain ⟨i, hi, rfl, hbr⟩ := hrel
    have hgAr : wr.heap[S]? = _ := blk_below hbr (by omega) hg1b.out
    have hgBr : wr.heap[S2]? = _ := blk_below hbr (by omega) hg2.out
    have hgA := blk_cell hgAr
    have hgB := blk_cell hgBr
    have hzr := hbr.size
    by_cases hin : i < n1
    · have hlt : (i : Int) < (n1 : Int) := by omega
      obtain ⟨ba, oa, xa, rfl, hba, hia, hca⟩ := IsT.at (f := ndC) (size := 7) (fun _ => rfl) (by decide) (p1.out.below hbw.out) hin
      obtain ⟨bb, ob, xb, rfl, hbb, hib, hcb⟩ := IsT.at (f := ndC) (size := 7) (fun _ => rfl) (by decide) (q1.out.below hbw.out) hin
      obtain rfl := Option.some.inj (hia.symm.trans hib)
      have wi1 : IntKind.i64.wrap ((i : Int) + 1) = ((i + 1 : Nat) : Int) := by rw [wraps62 _ (by omega) (by omega)]; omega
      clear hia hib
      replace hbr := hide hbr
      go_upto_region 6 with fail
      refine wp_region_X (Below w2.heap.size) (by as_aux_lemma => kernel_rfl) ?_
      intro wd hbd
      have hbd2 := hbr.out.trans (hbd.mono (by omega))
      have la := fun l : RelW (Below w2.heap.size) wd => blk_cell (blk_below (hbd2.trans l.hk) (by omega) hg1b.out)
      have lb := fun l : RelW (Below w2.heap.size) wd => blk_cell (blk_below (hbd2.trans l.hk) (by omega) hg2.out)
      have la0 := fun l : RelW (Below w2.heap.size) wd => (show l.w.cell? ⟨ba, oa + i * 7, none⟩ = some (.string (str xa.name)) from ((hbd2.trans l.hk).cell (p := ⟨ba, oa + i * 7, none⟩) (by dsimp only; omega)).trans (hca 0 _ rfl))
      have lb0 := fun l : RelW (Below w2.heap.size) wd => (show l.w.cell? ⟨bb, ob + i * 7, none⟩ = some (.string (str xa.name)) from ((hbd2.trans l.hk).cell (p := ⟨bb, ob + i * 7, none⟩) (by dsimp only; omega)).trans (hcb 0 _ rfl))
      have la1 := fun l : RelW (Below w2.heap.size) wd => (show l.w.cell? ⟨ba, oa + i * 7 + 1, none⟩ = some (.int .i64 xa.kind) from ((hbd2.trans l.hk).cell (p := ⟨ba, oa + i * 7 + 1, none⟩) (by dsimp only; omega)).trans (hca 1 _ rfl))
      have lb1 := fun l : RelW (Below w2.heap.size) wd => (show l.w.cell? ⟨bb, ob + i * 7 + 1, none⟩ = some (.int .i64 xa.kind) from ((hbd2.trans l.hk).cell (p := ⟨bb, ob + i * 7 + 1, none⟩) (by dsimp only; omega)).trans (hcb 1 _ rfl))
      have la2 := fun l : RelW (Below w2.heap.size) wd => (show l.w.cell? ⟨ba, oa + i * 7 + 2, none⟩ = some (.int .i64 xa.above) from ((hbd2.trans l.hk).cell (p := ⟨ba, oa + i * 7 + 2, none⟩) (by dsimp only; omega)).trans (hca 2 _ rfl))
      have lb2 := fun l : RelW (Below w2.heap.size) wd => (show l.w.cell? ⟨bb, ob + i * 7 + 2, none⟩ = some (.int .i64 xa.above) from ((hbd2.trans l.hk).cell (p := ⟨bb, ob + i * 7 + 2, none⟩) (by dsimp only; omega)).trans (hcb 2 _ rfl))
      have la3 := fun l : RelW (Below w2.heap.size) wd => (show l.w.cell? ⟨ba, oa + i * 7 + 3, none⟩ = some (.int .i64 xa.weight) from ((hbd2.trans l.hk).cell (p := ⟨ba, oa + i * 7 + 3, none⟩) (by dsimp only; omega)).trans (hca 3 _ rfl))
      have lb3 := fun l : RelW (Below w2.heap.size) wd => (show l.w.cell? ⟨bb, ob + i * 7 + 3, none⟩ = some (.int .i64 xa.weight) from ((hbd2.trans l.hk).cell (p := ⟨bb, ob + i * 7 + 3, none⟩) (by dsimp only; omega)).trans (hcb 3 _ rfl))
      have la4 := fun l : RelW (Below w2.heap.size) wd => (show l.w.cell? ⟨ba, oa + i * 7 + 4, none⟩ = some (.bool xa.a.v6) from ((hbd2.trans l.hk).cell (p := ⟨ba, oa + i * 7 + 4, none⟩) (by dsimp only; omega)).trans (hca 4 _ rfl))
      have lb4 := fun l : RelW (Below w2.heap.size) wd => (show l.w.cell? ⟨bb, ob + i * 7 + 4, none⟩ = some (.bool xa.a.v6) from ((hbd2.trans l.hk).cell (p := ⟨bb, ob + i * 7 + 4, none⟩) (by dsimp only; omega)).trans (hcb 4 _ rfl))
      have la5 := fun l : RelW (Below w2.heap.size) wd => (show l.w.cell? ⟨ba, oa + i * 7 + 5, none⟩ = some (.int .u64 (xa.a.hi : Int)) from ((hbd2.trans l.hk).cell (p := ⟨ba, oa + i * 7 + 5, none⟩) (by dsimp only; omega)).trans (hca 5 _ rfl))
      have lb5 := fun l : RelW (Below w2.heap.size) wd => (show l.w.cell? ⟨bb, ob + i * 7 + 5, none⟩ = some (.int .u64 (xa.a.hi : Int)) from ((hbd2.trans l.hk).cell (p := ⟨bb, ob + i * 7 + 5, none⟩) (by dsimp only; omega)).trans (hcb 5 _ rfl))
      have la6 := fun l : RelW (Below w2.heap.size) wd => (show l.w.cell? ⟨ba, oa + i * 7 + 6, none⟩ = some (.int .u64 (xa.a.lo : Int)) from ((hbd2.trans l.hk).cell (p := ⟨ba, oa + i * 7 + 6, none⟩) (by dsimp only; omega)).trans (hca 6 _ rfl))
      have lb6 := fun l : RelW (Below w2.heap.size) wd => (show l.w.cell? ⟨bb, ob + i * 7 + 6, none⟩ = some (.int .u64 (xa.a.lo : Int)) from ((hbd2.trans l.hk).cell (p := ⟨bb, ob + i * 7 + 6, none⟩) (by dsimp only; omega)).trans (hcb 6 _ rfl))
      clear hca hcb hbd hgA hgB hgAr hgBr
      replace hbd2 := hide hbd2
      refine wpX_seg (Below w2.heap.size) 0 11 (fuel := 0) (by as_aux_lemma => kernel_rfl) (fun d _ _ _ _ h => by cases d <;> exact h) (by as_aux_lemma => kernel_rfl) (by as_aux_lemma => kernel_rfl) ?_
      simp only [List.drop_zero, List.take_succ_cons, List.take_zero]
      iterate 11 (refine wpQX_step (fun K hK => ?_); go_simp; refine hK _ ?_; clear hK K)
      refine wpQF_nil ?_
      clear la lb la0 lb0 la1 lb1 la2 lb2 la3 lb3 la4 lb4 la5 lb5 la6 lb6
      refine wpF_done (by as_aux_lemma => kernel_rfl) ?_ 0
      go_wp2_with fail
      exact ⟨⟨i + 1, by omega, by first | rfl | go_num, hbd2.out⟩, by simp only [intOf]; omega⟩
    · obtain rfl : i = n1 := by omega
      have hlt : ((i : Int) < (i : Int)) = False := by simp
      replace hbr := hide hbr
      go_wp2_with fail
      go_loopw [4, 6] (fun _ iv wr => ∃ i : Nat, i ≤ n2 ∧ iv = .int .i64 (i : Int) ∧ Below w2.heap.size w2 wr) (fun _ iv _ => n2 - (intOf iv).toNat)
      case atStart => exact ⟨0, by omega, rfl, hbr.out⟩
      case round =>
        clear hgA hgB hgAr hgBr hbr hlt
        obtain ⟨i, hi, rfl, hbr⟩ := hrel
        have hgAr : wr.heap[S]? = _ := blk_below hbr (by omega) hg1b.out
        have hgBr : wr.heap[S2]? = _ := blk_below hbr (by omega) hg2.out
        have hgA := blk_cell hgAr
        have hgB := blk_cell hgBr
        have hzr := hbr.size
        by_cases hin : i < n2
        · have hlt : (i : Int) < (n2 : Int) := by omega
          obtain ⟨ba, oa, xa, rfl, hba, hia, hca⟩ := IsT.at (f := vpC) (size := 7) (fun _ => rfl) (by decide) (p2.out.below hbw.out) hin
          obtain ⟨bb, ob, xb, rfl, hbb, hib, hcb⟩ := IsT.at (f := vpC) (size := 7) (fun _ => rfl) (by decide) (q2.out.below hbw.out) hin
          obtain rfl := Option.some.inj (hia.symm.trans hib)
          have wi1 : IntKind.i64.wrap ((i : Int) + 1) = ((i + 1 : Nat) : Int) := by rw [wraps62 _ (by omega) (by omega)]; omega
          clear hia hib
          replace hbr := hide hbr
          go_upto_region 11 with fail
          refine wp_region_X (Below w2.heap.size) (by as_aux_lemma => kernel_rfl) ?_
          intro wd hbd
          have hbd2 := hbr.out.trans (hbd.mono (by omega))
          have la := fun l : RelW (Below w2.heap.size) wd => blk_cell (blk_below (hbd2.trans l.hk) (by omega) hg1b.out)
          have lb := fun l : RelW (Below w2.heap.size) wd => blk_cell (blk_below (hbd2.trans l.hk) (by omega) hg2.out)
          have la0 := fun l : RelW (Below w2.heap.size) wd => (show l.w.cell? ⟨ba, oa + i * 7, none⟩ = some (.bool xa.a.v6) from ((hbd2.trans l.hk).cell (p := ⟨ba, oa + i * 7, none⟩) (by dsimp only; omega)).trans (hca 0 _ rfl))
          have lb0 := fun l : RelW (Below w2.heap.size) wd => (show l.w.cell? ⟨bb, ob + i * 7, none⟩ = some (.bool xa.a.v6) from ((hbd2.trans l.hk).cell (p := ⟨bb, ob + i * 7, none⟩) (by dsimp only; omega)).trans (hcb 0 _ rfl))
          have la1 := fun l : RelW (Below w2.heap.size) wd => (show l.w.cell? ⟨ba, oa + i * 7 + 1, none⟩ = some (.int .u64 (xa.a.hi : Int)) from ((hbd2.trans l.hk).cell (p := ⟨ba, oa + i * 7 + 1, none⟩) (by dsimp only; omega)).trans (hca 1 _ rfl))
          have lb1 := fun l : RelW (Below w2.heap.size) wd => (show l.w.cell? ⟨bb, ob + i * 7 + 1, none⟩ = some (.int .u64 (xa.a.hi : Int)) from ((hbd2.trans l.hk).cell (p := ⟨bb, ob + i * 7 + 1, none⟩) (by dsimp only; omega)).trans (hcb 1 _ rfl))
          have la2 := fun l : RelW (Below w2.heap.size) wd => (show l.w.cell? ⟨ba, oa + i * 7 + 2, none⟩ = some (.int .u64 (xa.a.lo : Int)) from ((hbd2.trans l.hk).cell (p := ⟨ba, oa + i * 7 + 2, none⟩) (by dsimp only; omega)).trans (hca 2 _ rfl))
          have lb2 := fun l : RelW (Below w2.heap.size) wd => (show l.w.cell? ⟨bb, ob + i * 7 + 2, none⟩ = some (.int .u64 (xa.a.lo : Int)) from ((hbd2.trans l.hk).cell (p := ⟨bb, ob + i * 7 + 2, none⟩) (by dsimp only; omega)).trans (hcb 2 _ rfl))
          have la3 := fun l : RelW (Below w2.heap.size) wd => (show l.w.cell? ⟨ba, oa + i * 7 + 3, none⟩ = some (.int .i64 xa.proto) from ((hbd2.trans l.hk).cell (p := ⟨ba, oa + i * 7 + 3, none⟩) (by dsimp only; omega)).trans (hca 3 _ rfl))
          have lb3 := fun l : RelW (Below w2.heap.size) wd => (show l.w.cell? ⟨bb, ob + i * 7 + 3, none⟩ = some (.int .i64 xa.proto) from ((hbd2.trans l.hk).cell (p := ⟨bb, ob + i * 7 + 3, none⟩) (by dsimp only; omega)).trans (hcb 3 _ rfl))
          have la4 := fun l : RelW (Below w2.heap.size) wd => (show l.w.cell? ⟨ba, oa + i * 7 + 4, none⟩ = some (.int .i64 xa.port) from ((hbd2.trans l.hk).cell (p := ⟨ba, oa + i * 7 + 4, none⟩) (by dsimp only; omega)).trans (hca 4 _ rfl))
          have lb4 := fun l : RelW (Below w2.heap.size) wd => (show l.w.cell? ⟨bb, ob + i * 7 + 4, none⟩ = some (.int .i64 xa.port) from ((hbd2.trans l.hk).cell (p := ⟨bb, ob + i * 7 + 4, none⟩) (by dsimp only; omega)).trans (hcb 4 _ rfl))
          have la5 := fun l : RelW (Below w2.heap.size) wd => (show l.w.cell? ⟨ba, oa + i * 7 + 5, none⟩ = some (.int .i64 xa.copies) from ((hbd2.trans l.hk).cell (p := ⟨ba, oa + i * 7 + 5, none⟩) (by dsimp only; omega)).trans (hca 5 _ rfl))
          have lb5 := fun l : RelW (Below w2.heap.size) wd => (show l.w.cell? ⟨bb, ob + i * 7 + 5, none⟩ = some (.int .i64 xa.copies) from ((hbd2.trans l.hk).cell (p := ⟨bb, ob + i * 7 + 5, none⟩) (by dsimp only; omega)).trans (hcb 5 _ rfl))
          have la6 := fun l : RelW (Below w2.heap.size) wd => (show l.w.cell? ⟨ba, oa + i * 7 + 6, none⟩ = some (.bool xa.nat) from ((hbd2.trans l.hk).cell (p := ⟨ba, oa + i * 7 + 6, none⟩) (by dsimp only; omega)).trans (hca 6 _ rfl))
          have lb6 := fun l : RelW (Below w2.heap.size) wd => (show l.w.cell? ⟨bb, ob + i * 7 + 6, none⟩ = some (.bool xa.nat) from ((hbd2.trans l.hk).cell (p := ⟨bb, ob + i * 7 + 6, none⟩) (by dsimp only; omega)).trans (hcb 6 _ rfl))
          clear hca hcb hbd hgA hgB hgAr hgBr
          replace hbd2 := hide hbd2
          refine wpX_seg (Below w2.heap.size) 0 11 (fuel := 0) (by as_aux_lemma => kernel_rfl) (fun d _ _ _ _ h => by cases d <;> exact h) (by as_aux_lemma => kernel_rfl) (by as_aux_lemma => kernel_rfl) ?_
          simp only [List.drop_zero, List.take_succ_cons, List.take_zero]
          iterate 11 (refine wpQX_step (fun K hK => ?_); go_simp; refine hK _ ?_; clear hK K)
          refine wpQF_nil ?_
          clear la lb la0 lb0 la1 lb1 la2 lb2 la3 lb3 la4 lb4 la5 lb5 la6 lb6
          refine wpF_done (by as_aux_lemma => kernel_rfl) ?_ 0
          go_wp2_with fail
          exact ⟨⟨i + 1, by omega, by first | rfl | go_num, hbd2.out⟩, by simp only [intOf]; omega⟩
        · obtain rfl : i = n2 := by omega
          have hlt : ((i : Int) < (i : Int)) = False := by simp
          replace hbr := hide hbr
          go_wp2_with fail
          go_loopw [4, 7] (fun _ iv wr => ∃ i : Nat, i ≤ n3 ∧ iv = .int .i64 (i : Int) ∧ Below w2.heap.size w2 wr) (fun _ iv _ => n3 - (intOf iv).toNat)
          case atStart => exact ⟨0, by omega, rfl, hbr.out⟩
          case round =>
            clear hgA hgB hgAr hgBr hbr hlt
            obtain ⟨i, hi, rfl, hbr⟩ := hrel
            have hgAr : wr.heap[S]? = _ := blk_below hbr (by omega) hg1b.out
            have hgBr : wr.heap[S2]? = _ := blk_below hbr (by omega) hg2.out
            have hgA := blk_cell hgAr
            have hgB := blk_cell hgBr
            have hzr := hbr.size
            by_cases hin : i < n3
            · have hlt : (i : Int) < (n3 : Int) := by omega
              obtain ⟨ba, oa, xa, rfl, hba, hia, hca⟩ := IsT.at (f := vwC) (size := 5) (fun _ => rfl) (by decide) (p3.out.below hbw.out) hin
              obtain ⟨bb, ob, xb, rfl, hbb, hib, hcb⟩ := IsT.at (f := vwC) (size := 5) (fun _ => rfl) (by decide) (q3.out.below hbw.out) hin
              obtain rfl := Option.some.inj (hia.symm.trans hib)
              have wi1 : IntKind.i64.wrap ((i : Int) + 1) = ((i + 1 : Nat) : Int) := by rw [wraps62 _ (by omega) (by omega)]; omega
              clear hia hib
              replace hbr := hide hbr
              go_upto_region 16 with fail
              refine wp_region_X (Below w2.heap.size) (by as_aux_lemma => kernel_rfl) ?_
              intro wd hbd
              have hbd2 := hbr.out.trans (hbd.mono (by omega))
              have la := fun l : RelW (Below w2.heap.size) wd => blk_cell (blk_below (hbd2.trans l.hk) (by omega) hg1b.out)
              have lb := fun l : RelW (Below w2.heap.size) wd => blk_cell (blk_below (hbd2.trans l.hk) (by omega) hg2.out)
              have la0 := fun l : RelW (Below w2.heap.size) wd => (show l.w.cell? ⟨ba, oa + i * 5, none⟩ = some (.bool xa.a.v6) from ((hbd2.trans l.hk).cell (p := ⟨ba, oa + i * 5, none⟩) (by dsimp only; omega)).trans (hca 0 _ rfl))
              have lb0 := fun l : RelW (Below w2.heap.size) wd => (show l.w.cell? ⟨bb, ob + i * 5, none⟩ = some (.bool xa.a.v6) from ((hbd2.trans l.hk).cell (p := ⟨bb, ob + i * 5, none⟩) (by dsimp only; omega)).trans (hcb 0 _ rfl))
              have la1 := fun l : RelW (Below w2.heap.size) wd => (show l.w.cell? ⟨ba, oa + i * 5 + 1, none⟩ = some (.int .u64 (xa.a.hi : Int)) from ((hbd2.trans l.hk).cell (p := ⟨ba, oa + i * 5 + 1, none⟩) (by dsimp only; omega)).trans (hca 1 _ rfl))
              have lb1 := fun l : RelW (Below w2.heap.size) wd => (show l.w.cell? ⟨bb, ob + i * 5 + 1, none⟩ = some (.int .u64 (xa.a.hi : Int)) from ((hbd2.trans l.hk).cell (p := ⟨bb, ob + i * 5 + 1, none⟩) (by dsimp only; omega)).trans (hcb 1 _ rfl))
              have la2 := fun l : RelW (Below w2.heap.size) wd => (show l.w.cell? ⟨ba, oa + i * 5 + 2, none⟩ = some (.int .u64 (xa.a.lo : Int)) from ((hbd2.trans l.hk).cell (p := ⟨ba, oa + i * 5 + 2, none⟩) (by dsimp only; omega)).trans (hca 2 _ rfl))
              have lb2 := fun l : RelW (Below w2.heap.size) wd => (show l.w.cell? ⟨bb, ob + i * 5 + 2, none⟩ = some (.int .u64 (xa.a.lo : Int)) from ((hbd2.trans l.hk).cell (p := ⟨bb, ob + i * 5 + 2, none⟩) (by dsimp only; omega)).trans (hcb 2 _ rfl))
              have la3 := fun l : RelW (Below w2.heap.size) wd => (show l.w.cell? ⟨ba, oa + i * 5 + 3, none⟩ = some (.int .i64 xa.bits) from ((hbd2.trans l.hk).cell (p := ⟨ba, oa + i * 5 + 3, none⟩) (by dsimp only; omega)).trans (hca 3 _ rfl))
              have lb3 := fun l : RelW (Below w2.heap.size) wd => (show l.w.cell? ⟨bb, ob + i * 5 + 3, none⟩ = some (.int .i64 xa.bits) from ((hbd2.trans l.hk).cell (p := ⟨bb, ob + i * 5 + 3, none⟩) (by dsimp only; omega)).trans (hcb 3 _ rfl))
              have la4 := fun l : RelW (Below w2.heap.size) wd => (show l.w.cell? ⟨ba, oa + i * 5 + 4, none⟩ = some (.int .i64 xa.level) from ((hbd2.trans l.hk).cell (p := ⟨ba, oa + i * 5 + 4, none⟩) (by dsimp only; omega)).trans (hca 4 _ rfl))
              have lb4 := fun l : RelW (Below w2.heap.size) wd => (show l.w.cell? ⟨bb, ob + i * 5 + 4, none⟩ = some (.int .i64 xa.level) from ((hbd2.trans l.hk).cell (p := ⟨bb, ob + i * 5 + 4, none⟩) (by dsimp only; omega)).trans (hcb 4 _ rfl))
              clear hca hcb hbd hgA hgB hgAr hgBr
              replace hbd2 := hide hbd2
              refine wpX_seg (Below w2.heap.size) 0 11 (fuel := 0) (by as_aux_lemma => kernel_rfl) (fun d _ _ _ _ h => by cases d <;> exact h) (by as_aux_lemma => kernel_rfl) (by as_aux_lemma => kernel_rfl) ?_
              simp only [List.drop_zero, List.take_succ_cons, List.take_zero]
              iterate 11 (refine wpQX_step (fun K hK => ?_); go_simp; refine hK _ ?_; clear hK K)
              refine wpQF_nil ?_
              clear la lb la0 lb0 la1 lb1 la2 lb2 la3 lb3 la4 lb4
              refine wpF_done (by as_aux_lemma => kernel_rfl) ?_ 0
              go_wp2_with fail
              exact ⟨⟨i + 1, by omega, by first | rfl | go_num, hbd2.out⟩, by simp only [intOf]; omega⟩
            · obtain rfl : i = n3 := by omega
              have hlt : ((i : Int) < (i : Int)) = False := by simp
              replace hbr := hide hbr
              go_wp2_with fail
              go_ret
              exact ⟨rfl, hbF.out.trans (hbr.out.mono (by omega))⟩
end Conf18
end Go.Proofs.YtcpokkkdmenmgaaDoor
/- conf, the law: awake. Condition: the cell of bytealg.MaxLen. -/
namespace Go.Proofs.YtcpokkkdmenmgaaDoor
open Go.RowKit Go.ChangeShapes Go.WideShapes Go.ChangeAt Go.Deep
namespace Conf18
open Addr05
theorem alloc_cf (o : Oper) (h : o.op = .alloc 30) (ρ : Operand → Value) (w : World) : (execOp ρ o).run Tryd.prog w = .ok (.value (.pointer (some ⟨w.heap.size, 0, none⟩))) (w.alloc (.cells #[.slice none 0 0, .slice none 0 0, .slice none 0 0, .int .i64 0, .int .i64 0, .bool false, .int .u64 0, .int .u64 0, .bool false, .int .u64 0, .int .u64 0] 30)) := by
  obtain ⟨d, op, t, ps, af, g⟩ := o
  dsimp only at h
  subst h
  kernel_rfl
theorem exA_err : confF exA = .error (1, 5) := by
  have h := exA_is
  rcases hc : confF exA with p | c
  · rw [hc] at h
    obtain ⟨a, b⟩ := p
    obtain ⟨h1, h2⟩ := of_decide_eq_true h
    dsimp only at h1 h2
    rw [h1, h2]
  · rw [hc] at h; cases h
theorem exB_ok : ∃ c, confF exB = .ok c ∧ c.nodes.length = 4 ∧ (∃ nd, c.nodes[3]? = some nd ∧ nd.above = 2) ∧ c.factor = 140 := by
  have h := exB_is
  rcases hc : confF exB with p | c
  · rw [hc] at h; cases h
  · rw [hc] at h
    obtain ⟨h1, h2, h3⟩ := of_decide_eq_true h
    refine ⟨c, rfl, h1, ⟨c.nodes[3], List.getElem?_eq_getElem (by omega), ?_⟩, h3⟩
    rw [List.getD_eq_getElem?_getD, List.getElem?_eq_getElem (by omega)] at h2
    exact h2
set_option maxRecDepth 20000 in
set_option maxHeartbeats 8000000 in
theorem cawake_any (w : World) (hm : MaxAt w) : Calls Tryd.prog 8 #[] w fun e w' => e = .returned (.bool true) ∧ Below w.heap.size w w' := by
  have qa : Calls Tryd.prog 11 #[.string ⟨#[102, 97, 99, 116, 111, 114, 32, 57, 57]⟩] w fun e w' => e = .returned (.tuple #[.agg #[.slice none 0 0, .slice none 0 0, .slice none 0 0, .int .i64 0, .int .i64 0, .bool false, .int .u64 0, .int .u64 0, .bool false, .int .u64 0, .int .u64 0], .int .i64 1, .int .i64 5]) ∧ Below w.heap.size w w' := by
    refine (confParse_any exA (by decide) w hm).mono ?_
    rintro e w' ⟨hb, ⟨p, hp, he⟩ | ⟨c, v, hp, -⟩⟩
    · rw [exA_err] at hp
      cases hp
      exact ⟨he, hb⟩
    · rw [exA_err] at hp; cases hp
  obtain ⟨c, hc, hn4, ⟨nd, hnd, hab⟩, hf⟩ := exB_ok
  have qb : ∀ w', MaxAt w' → Calls Tryd.prog 11 #[.string ⟨#[108, 101, 118, 101, 108, 32, 97, 10, 122, 111, 110, 101, 32, 98, 32, 97, 10, 114, 97, 99, 107, 32, 99, 32, 98, 32, 55, 10, 104, 111, 115, 116, 32, 100, 32, 99, 32, 53, 32, 49, 46, 50, 46, 51, 46, 52]⟩] w' fun e w2 => (∃ A1 A2 A3 k1 k2 k3, e = .returned (.tuple #[.agg (cfC c (.slice A1 c.nodes.length k1) (.slice A2 c.vips.length k2) (.slice A3 c.views.length k3)), .int .i64 0, .int .i64 0]) ∧ CfgR w2 w2.heap.size c A1 A2 A3 k1 k2 k3) ∧ Below w'.heap.size w' w2 := fun w' hm' => by
    refine (confParse_any exB (by decide) w' hm').mono ?_
    rintro e w2 ⟨hb, ⟨p, hp, he⟩ | ⟨c', v, hp, he, hv, -⟩⟩
    · rw [hc] at hp; cases hp
    · rw [hc] at hp
      cases hp
      obtain ⟨A1, A2, A3, k1, k2, k3, rfl, hR⟩ := hv.open
      exact ⟨⟨A1, A2, A3, k1, k2, k3, he, hR⟩, hb⟩
  clear hc
  replace qa := hide qa
  replace qb := hide qb
  replace hm := hide hm
  replace hnd := hide hnd
  go_enter Tryd.func8, Tryd.ntmps8
  go_upto_region 1 with fail
  apply wp_region_lit
  refine wpList_plain rfl fun K hK => ?_
  go_simp
  refine (qa.out).mono ?_
  rintro e w1 ⟨rfl, hb1⟩
  go_simp
  refine hK _ _ ?_
  clear hK K
  iterate 4 (refine wpList_plain rfl fun K hK => ?_; go_simp; refine hK _ _ ?_; clear hK K)
  refine wpl_new rfl rfl 30 _ (alloc_cf _ rfl) 1 rfl (.tmp 9) rfl _ (fun _ => rfl) (fun _ => rfl) rfl (by kernel_rfl) (cf_one _ _ _ rfl rfl rfl 0 0 false 0 0 false 0 0) ?_
  intro w2 hg2 hb2 hz2
  iterate 2 (refine wpList_plain rfl fun K hK => ?_; go_simp; refine hK _ _ ?_; clear hK K)
  refine wpList_nil ?_
  go_simp
  have hbw := hb1.trans (hb2.mono hb1.size)
  have hm2 := hm.out.below hbw
  have qb2 := qb.out w2 hm2
  have hz1 := hbw.size
  clear hg2 hb1 hb2 qa qb
  replace hbw := hide hbw
  replace qb2 := hide qb2
  go_upto_region 2 with fail
  apply wp_region_lit
  refine wpList_plain rfl fun K hK => ?_
  go_simp
  refine (qb2.out).mono ?_
  rintro e w3 ⟨⟨A1, A2, A3, k1, k2, k3, rfl, hR⟩, hb3⟩
  go_simp
  refine hK _ _ ?_
  clear hK K
  iterate 4 (refine wpList_plain rfl fun K hK => ?_; go_simp; refine hK _ _ ?_; clear hK K)
  refine wpl_new rfl rfl 30 _ (alloc_cf _ rfl) 4 rfl (.tmp 14) rfl _ (fun _ => rfl) (fun _ => rfl) rfl (by kernel_rfl) (cf_one _ _ _ rfl rfl rfl _ _ _ _ _ _ _ _) ?_
  intro w4 hg4 hb4 hz4
  iterate 2 (refine wpList_plain rfl fun K hK => ?_; go_simp; refine hK _ _ ?_; clear hK K)
  refine wpList_nil ?_
  go_simp
  have hR4 := hR.on hb4
  have hz3 := hb3.size
  have hbe := hbw.out.trans ((hb3.mono (by omega)).trans (hb4.mono (by omega)))
  obtain ⟨b, off, nd', hA1, hbk, hni, hcell⟩ := IsT.at (f := ndC) (size := 7) (i := 3) (fun _ => rfl) (by decide) hR4.nodes (by omega)
  obtain rfl := Option.some.inj (hnd.out.symm.trans hni)
  have kA : w4.cell? ⟨b, off + 21 + 2, none⟩ = some (.int .i64 nd.above) := hcell 2 _ rfl
  have kA2 : w4.cell? ⟨b, off + 23, none⟩ = some (.int .i64 nd.above) := hcell 2 _ rfl
  rw [hab] at kA kA2
  subst hA1
  have g0 : w4.cell? ⟨w3.heap.size, 0, none⟩ = some (.slice (some ⟨b, off, none⟩) 4 k1) := blk_cell hg4 0
  have g3 : w4.cell? ⟨w3.heap.size, 3, none⟩ = some (.int .i64 140) := by
    rw [← hf]
    exact blk_cell hg4 3
  clear hcell hni hg4 hb3 hb4 hR hR4
  replace hbe := hide hbe
  go_wp2_with fail
  go_ret
  exact ⟨rfl, hbe.out⟩
end Conf18
end Go.Proofs.YtcpokkkdmenmgaaDoor
