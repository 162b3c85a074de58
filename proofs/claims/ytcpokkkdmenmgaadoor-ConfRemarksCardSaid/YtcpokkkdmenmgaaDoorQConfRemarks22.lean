/- The law's may: a configuration of which it says yes can be said in lines. Conditions: rows in their capacity; names of any length. -/
import Derived.Test.YtcpokkkdmenmgaaDoorQConfRemarks18
import Derived.Test.YtcpokkkdmenmgaaDoorQConfRemarks12
import Derived.Test.YtcpokkkdmenmgaaDoorQConfRemarks21
import Derived.Test.YtcpokkkdmenmgaaDoorQConfRemarks10
import Derived.Test.YtcpokkkdmenmgaaDoorQConfRemarks20
namespace Go.Proofs.YtcpokkkdmenmgaaDoor
open Go.RowKit Go.ChangeShapes Go.WideShapes Go.ChangeAt Go.Deep
namespace Conf18
open Addr05
open Tree16 (TNewEnd tnew_any)
def okVp (v : Vp) : Prop := v.a.right ∧ (v.proto = 6 ∨ v.proto = 17) ∧ 0 ≤ v.port ∧ v.port ≤ 65535 ∧ 1 ≤ v.copies ∧ v.copies ≤ 8
def okVw (v : Vw) : Prop := (0 ≤ v.bits ∧ v.a.rightP v.bits.toNat = true) ∧ 0 ≤ v.level ∧ v.level ≤ 3
def okHd (c : Cfg) : Prop := (100 ≤ c.factor ∧ c.factor ≤ 1000) ∧ (c.domain = 2 ∨ c.domain = 3) ∧ (c.s0.v6 = false ∧ c.s0.right) ∧ (c.s1 = zA ∨ c.s1.v6 = true)
theorem rightB_of {a : Adr} (h : rightB a.v6 a.hi a.lo = true) : a.right := by
  rw [Tree16.rightA_is] at h
  exact of_decide_eq_true h
set_option maxRecDepth 20000 in
set_option maxHeartbeats 16000000 in
theorem may_any (c : Cfg) (M : Nat) (hg : c.good M) (hM : M ≤ 9223372036854775807) (w : World) (A1 A2 A3 : Option Addr) (k1 k2 k3 : Nat) (hR : CfgR w w.heap.size c A1 A2 A3 k1 k2 k3) (h1 : c.nodes.length ≤ k1 ∧ k1 ≤ maxLen) (h2 : c.vips.length ≤ 1000) (h3 : c.views.length ≤ 1000) (h0 : c.nodes.length ≤ 1000) :
    Calls Tryd.prog 9 #[.agg (cfC c (.slice A1 c.nodes.length k1) (.slice A2 c.vips.length k2) (.slice A3 c.views.length k3))] w fun e w' => (∃ b, e = .returned (.bool b) ∧ (b = true → mayP c)) ∧ Below w.heap.size w w' := by
  have hnm : ∀ x ∈ c.nodes, x.name.length ≤ 9223372036854775807 := fun x hx => Nat.le_trans (hg.nodes x hx).2 hM
  have qt := fun w' (hb : Below w.heap.size w w') => tnew_any c.nodes c.nodes.length k1 A1 w' (hR.nodes.on hb) h1.1 h1.2 (by omega) hnm
  have hvp := hR.vips
  have hvw := hR.views
  have hg1 := hg.vips
  have hg2 := hg.views
  have fin : Tree16.treeF c.nodes = none → okHd c → (∀ v ∈ c.vips, okVp v) → (∀ v ∈ c.views, okVw v) → mayP c := fun a b d e => ⟨a, b.1, b.2.1, b.2.2.1, b.2.2.2, d, e⟩
  unfold okHd at fin
  clear hR hg hnm h0
  obtain ⟨nodes, vips, views, f, d, ⟨a, b, e⟩, ⟨a', b', e'⟩, fs, ds⟩ := c
  obtain ⟨fin2, hfin2⟩ : ∃ P, mayP ⟨nodes, vips, views, f, d, ⟨a, b, e⟩, ⟨a', b', e'⟩, fs, ds⟩ = P := ⟨_, rfl⟩
  rw [hfin2] at fin ⊢
  clear hfin2
  unfold cfC
  dsimp only at h1 h2 h3 qt hvp hvw fin hg1 hg2 ⊢
  obtain ⟨n, hn⟩ : ∃ n, nodes.length = n := ⟨_, rfl⟩
  obtain ⟨m, hm⟩ : ∃ m, vips.length = m := ⟨_, rfl⟩
  obtain ⟨l, hl⟩ : ∃ l, views.length = l := ⟨_, rfl⟩
  rw [hn] at qt ⊢
  rw [hm] at hvp h2 ⊢
  rw [hl] at hvw h3 ⊢
  obtain ⟨z, hz⟩ : ∃ z, w.heap.size = z := ⟨_, rfl⟩
  obtain ⟨w1, hw1⟩ : ∃ w1, w.alloc (.cells #[.slice A1 n k1, .slice A2 m k2, .slice A3 l k3, .int .i64 f, .int .i64 d, .bool a, .int .u64 (b : Int), .int .u64 (e : Int), .bool a', .int .u64 (b' : Int), .int .u64 (e' : Int)] 30) = w1 := ⟨_, rfl⟩
  have hb1 : Below w.heap.size w w1 := hw1 ▸ (Below.refl _ _).alloc (Nat.le_refl _) _
  have hc1 : w1.heap[w.heap.size]? = some (.cells #[.slice A1 n k1, .slice A2 m k2, .slice A3 l k3, .int .i64 f, .int .i64 d, .bool a, .int .u64 (b : Int), .int .u64 (e : Int), .bool a', .int .u64 (b' : Int), .int .u64 (e' : Int)] 30 (0, 0)) := hw1 ▸ blk_new _ _ _
  have hz1 : z < w1.heap.size := by rw [← hz]; exact lt_of_blk hc1
  clear h1 hn hm hl
  rw [hz] at hb1 hc1 qt hvp hvw
  replace hb1 := hide hb1
  replace hc1 := hide hc1
  replace qt := hide qt
  replace hvp := hide hvp
  replace hvw := hide hvw
  replace fin := hide fin
  replace hg1 := hide hg1
  replace hg2 := hide hg2
  go_enter Tryd.func9, Tryd.ntmps9
  rw [hz]
  go_upto_region 1 with fail
  clear hw1
  apply wp_region_lit
  iterate 1 (refine wpList_plain rfl fun K hK => ?_; go_simp; refine hK _ _ ?_; clear hK K)
  refine wpl_new rfl rfl 27 _ (alloc_adr _ rfl) 3 rfl (.tmp 10) rfl _ (fun _ => rfl) (fun _ => rfl) rfl (by kernel_rfl) (adr_one false 0 0) ?_
  intro w2 hg2' hb2 hz2
  refine wpList_nil ?_
  go_simp
  obtain ⟨y, hy⟩ : ∃ y, w1.heap.size = y := ⟨_, rfl⟩
  rw [hy] at hg2' hb2 hz2 hz1 ⊢
  have hbw2 := hb1.out.trans (hb2.mono (by omega))
  have hc2 := blk_below hb2 (by omega) hc1.out
  have qt2 := qt.out w2 hbw2
  unfold TNewEnd at qt2
  clear qt hb1 hc1 hb2
  replace hbw2 := hide hbw2
  replace hc2 := hide hc2
  replace hg2' := hide hg2'
  replace qt2 := hide qt2
  go_upto_region 2 with fail
  apply wp_region_lit
  have la := blk_cell hc2.out 0
  iterate 2 (refine wpList_plain rfl fun K hK => ?_; go_simp; refine hK _ _ ?_; clear hK K)
  refine wpList_plain rfl fun K hK => ?_
  go_simp
  refine qt2.out.mono ?_
  rintro r w3 ⟨hb3, ⟨p, hp, hp0, rfl⟩ | ⟨htr, x, rfl, -⟩⟩
  · have te : ((p.2 : Int) != 0) = true := by rw [bne_iff_ne]; omega
    have hbf := hbw2.out.trans (hb3.mono (by omega))
    clear la qt2 hp fin hp0 hb3 hvp hvw hc2 hg2' hg1 hg2
    replace hbf := hide hbf
    go_simp
    refine hK _ _ ?_
    clear hK K
    go_wp2_with fail
    go_ret
    exact ⟨⟨false, rfl, fun h => by cases h⟩, hbf.out⟩
  · have fin2' := fin.out htr
    have hb3' := hb3
    have hbf := hbw2.out.trans (hb3.mono (by omega))
    have hc3 := blk_below hb3 (by omega) hc2.out
    have hg3 := blk_below hb3 hz2 hg2'.out
    have hz3 := hb3.size
    clear la qt2 fin htr hb3 hc2 hg2' hb3' hbw2
    replace fin2' := hide fin2'
    replace hbf := hide hbf
    replace hc3 := hide hc3
    replace hg3 := hide hg3
    go_simp
    refine hK _ _ ?_
    clear hK K
    go_upto_region 3 with fail
    have c3 := fun i => blk_cell hc3.out i
    have d3 := fun i => blk_cell hg3.out i
    go_cut [66] (fun bv wx => ∃ B, bv = .bool B ∧ (B = false → (100 ≤ f ∧ f ≤ 1000) ∧ (d = 2 ∨ d = 3) ∧ (a = false ∧ (⟨a, b, e⟩ : Adr).right) ∧ ((⟨a', b', e'⟩ : Adr) = zA ∨ a' = true)) ∧ Below w3.heap.size w3 wx)
    case first =>
      have hrt := Right_any a b e w3
      obtain ⟨R, hR⟩ : ∃ R, rightB a b e = R := ⟨_, rfl⟩
      rw [hR] at hrt
      have hRr : R = true → (⟨a, b, e⟩ : Adr).right := fun h => rightB_of (a := ⟨a, b, e⟩) (hR.trans h)
      clear fin2' hvp hvw hbf hg1 hg2 hR
      replace hrt := hide hrt
      replace hRr := hide hRr
      by_cases e1 : f < 100
      · have t1 : decide (f < 100) = true := decide_eq_true e1
        go_wp2_with fail
        go_meet
        exact ⟨true, rfl, fun h => (by cases h), Below.refl _ _⟩
      have t1 : decide (f < 100) = false := decide_eq_false e1
      by_cases e2 : 1000 < f
      · have t2 : decide (1000 < f) = true := decide_eq_true e2
        go_wp2_with fail
        go_meet
        exact ⟨true, rfl, fun h => (by cases h), Below.refl _ _⟩
      have t2 : decide (1000 < f) = false := decide_eq_false e2
      by_cases e3 : d ≠ 2 ∧ d ≠ 3
      · have t3 : (d != 2) = true := by rw [bne_iff_ne]; exact e3.1
        have t4 : (d != 3) = true := by rw [bne_iff_ne]; exact e3.2
        go_wp2_with fail
        go_meet
        exact ⟨true, rfl, fun h => (by cases h), Below.refl _ _⟩
      have hd : d = 2 ∨ d = 3 := by omega
      have hf : 100 ≤ f ∧ f ≤ 1000 := ⟨by omega, by omega⟩
      clear e1 e2 e3
      replace hf := hide hf
      rcases hd with rfl | rfl
      all_goals
        cases a
        case true =>
          go_wp2_with fail
          go_meet
          exact ⟨true, rfl, fun h => (by cases h), Below.refl _ _⟩
        case false =>
        cases R
        case false =>
          go_wp2_with fail
          refine hrt.out.mono ?_
          rintro r w4 ⟨rfl, hb4⟩
          replace hb4 := hide hb4
          go_wp2_with fail
          go_meet
          exact ⟨true, rfl, fun h => (by cases h), hb4.out⟩
        case true =>
        cases a'
        case true =>
          go_wp2_with fail
          refine hrt.out.mono ?_
          rintro r w4 ⟨rfl, hb4⟩
          have c4 := fun i => (blk_below hb4 (by omega) hc3.out |> fun h => blk_cell h i)
          have d4 := fun i => (blk_below hb4 (by omega) hg3.out |> fun h => blk_cell h i)
          replace hb4 := hide hb4
          go_wp2_with fail
          go_meet
          exact ⟨false, rfl, fun _ => ⟨hf.out, by simp, ⟨by simp, hRr.out (by first | rfl | trivial)⟩, .inr (by simp)⟩, hb4.out⟩
        case false =>
        by_cases e5 : (b' : Int) = 0
        · by_cases e6 : (e' : Int) = 0
          · obtain rfl : b' = 0 := by omega
            obtain rfl : e' = 0 := by omega
            clear e5 e6
            go_wp2_with fail
            refine hrt.out.mono ?_
            rintro r w4 ⟨rfl, hb4⟩
            have c4 := fun i => (blk_below hb4 (by omega) hc3.out |> fun h => blk_cell h i)
            have d4 := fun i => (blk_below hb4 (by omega) hg3.out |> fun h => blk_cell h i)
            replace hb4 := hide hb4
            go_wp2_with fail
            go_meet
            exact ⟨false, rfl, fun _ => ⟨hf.out, by simp, ⟨by simp, hRr.out (by first | rfl | trivial)⟩, .inl (by first | rfl | trivial)⟩, hb4.out⟩
          · obtain rfl : b' = 0 := by omega
            clear e5
            go_wp2_with fail
            refine hrt.out.mono ?_
            rintro r w4 ⟨rfl, hb4⟩
            have c4 := fun i => (blk_below hb4 (by omega) hc3.out |> fun h => blk_cell h i)
            have d4 := fun i => (blk_below hb4 (by omega) hg3.out |> fun h => blk_cell h i)
            replace hb4 := hide hb4
            go_wp2_with fail
            go_meet
            exact ⟨true, rfl, fun h => (by cases h), hb4.out⟩
        · go_wp2_with fail
          refine hrt.out.mono ?_
          rintro r w4 ⟨rfl, hb4⟩
          have c4 := fun i => (blk_below hb4 (by omega) hc3.out |> fun h => blk_cell h i)
          have d4 := fun i => (blk_below hb4 (by omega) hg3.out |> fun h => blk_cell h i)
          replace hb4 := hide hb4
          go_wp2_with fail
          go_meet
          exact ⟨true, rfl, fun h => (by cases h), hb4.out⟩
    case rest =>
    obtain ⟨B, rfl, hB, hb4⟩ := hcut
    clear c3 d3
    cases B
    case true =>
      have hbz := hbf.out.trans (hb4.mono (by omega))
      clear hb4 hvp hvw hg1 hg2 hc3 hg3 hB fin2'
      replace hbz := hide hbz
      go_wp2_with fail
      go_ret
      exact ⟨⟨false, rfl, fun h => by cases h⟩, hbz.out⟩
    case false =>
    have fin3 := fin2'.out (hB rfl)
    have hc4 := blk_below hb4 (by omega) hc3.out
    have hbz := hbf.out.trans (hb4.mono (by omega))
    have hzc : z < wc.heap.size := by have := hb4.size; omega
    have hvp4 := hvp.out.below hbz
    have hvw4 := hvw.out.below hbz
    clear hB hb4 hc3 hg3 hbf hvp hvw fin2'
    replace fin3 := hide fin3
    replace hc4 := hide hc4
    replace hbz := hide hbz
    replace hvp4 := hide hvp4
    replace hvw4 := hide hvw4
    go_upto_block 0 with fail
    have c4 := fun i => blk_cell hc4.out i
    go_cut [] (fun wx => (∀ v ∈ vips, okVp v) ∧ Below wc.heap.size wc wx)
    case first =>
      clear fin3 hvw4 hg2
      go_wp2_with fail
      go_loopw [7, 8] (fun iv _ wr => ∃ i : Nat, i ≤ m ∧ iv = .int .i64 (i : Int) ∧ (∀ (j : Nat) (v : Vp), j < i → vips[j]? = some v → okVp v) ∧ Below wc.heap.size wc wr) (fun iv _ _ => m - (intOf iv).toNat)
      case atStart => exact ⟨0, by omega, rfl, fun j v hj => absurd hj (by omega), Below.refl _ _⟩
      case round =>
        obtain ⟨i, hi, rfl, hok, hbr⟩ := hrel
        by_cases him : i < m
        · have hlt : (i : Int) < (m : Int) := by omega
          obtain ⟨pb, off, v, rfl, hbk, hvi, hcell⟩ := IsT.at (f := vpC) (size := 7) (fun _ => rfl) (by decide) (hvp4.out.below (hbr.mono (by omega))) him
          have hgv := hg1.out v (List.mem_of_getElem? hvi)
          have cr := fun i => blk_cell (blk_below hbr hzc hc4.out) i
          have wi1 : IntKind.i64.wrap ((i : Int) + 1) = ((i + 1 : Nat) : Int) := by rw [wraps62 _ (by omega) (by omega)]; omega
          have hok2 : okVp v → ∀ (j : Nat) (v : Vp), j < i + 1 → vips[j]? = some v → okVp v := fun h j v' hj hv' => by
            by_cases e : j = i
            · subst e
              obtain rfl := Option.some.inj (hvi.symm.trans hv')
              exact h
            · exact hok j v' (by omega) hv'
          have hzr := hbr.size
          obtain ⟨⟨v6, hi', lo⟩, pr, po, cp, nt⟩ := v
          have y0 : wr.cell? ⟨pb, off + i * 7, none⟩ = some (.bool v6) := hcell 0 _ rfl
          have y1 : wr.cell? ⟨pb, off + i * 7 + 1, none⟩ = some (.int .u64 (hi' : Int)) := hcell 1 _ rfl
          have y2 : wr.cell? ⟨pb, off + i * 7 + 2, none⟩ = some (.int .u64 (lo : Int)) := hcell 2 _ rfl
          have y3 : wr.cell? ⟨pb, off + i * 7 + 3, none⟩ = some (.int .i64 pr) := hcell 3 _ rfl
          have y4 : wr.cell? ⟨pb, off + i * 7 + 4, none⟩ = some (.int .i64 po) := hcell 4 _ rfl
          have y5 : wr.cell? ⟨pb, off + i * 7 + 5, none⟩ = some (.int .i64 cp) := hcell 5 _ rfl
          have y6 : wr.cell? ⟨pb, off + i * 7 + 6, none⟩ = some (.bool nt) := hcell 6 _ rfl
          clear hcell hvi hok hgv
          unfold okVp at hok2
          dsimp only at hok2
          replace hok2 := hide hok2
          replace hbr := hide hbr
          go_upto_region 8 with fail
          apply wp_region_lit
          iterate 5 (refine wpList_plain rfl fun K hK => ?_; go_simp; refine hK _ _ ?_; clear hK K)
          refine wpl_new rfl rfl 77 _ (alloc_vp _ rfl) 8 rfl (.tmp 78) rfl _ (fun _ => rfl) (fun _ => rfl) rfl (by kernel_rfl) (vp_one v6 (hi' : Int) (lo : Int) pr po cp nt) ?_
          intro w4 hg4 hb4 hz4
          refine wpList_nil ?_
          go_simp
          clear y0 y1 y2 y3 y4 y5 y6 cr
          have hrt := Right_any v6 hi' lo w4
          obtain ⟨R, hR⟩ : ∃ R, rightB v6 hi' lo = R := ⟨_, rfl⟩
          rw [hR] at hrt
          have hRr : R = true → (⟨v6, hi', lo⟩ : Adr).right := fun h => rightB_of (a := ⟨v6, hi', lo⟩) (hR.trans h)
          have hb4' := hbr.out.trans (hb4.mono hzr)
          have hcc4 := fun i => blk_cell hg4 i
          clear hR hb4
          replace hrt := hide hrt
          replace hRr := hide hRr
          replace hg4 := hide hg4
          replace hb4' := hide hb4'
          go_upto_region 9 with fail
          go_cut [112] from 67 to 111 (fun bv wx => ∃ B, bv = .bool B ∧ (B = false → okVp ⟨⟨v6, hi', lo⟩, pr, po, cp, nt⟩) ∧ Below w4.heap.size w4 wx)
          case first =>
            clear hbr
            go_wp2_with fail
            refine hrt.out.mono ?_
            rintro r w5 ⟨rfl, hb5⟩
            have c5 := fun i => blk_cell (blk_below hb5 hz4 hg4.out) i
            clear hcc4 hok2
            replace hb5 := hide hb5
            cases R
            case false =>
              go_wp2_with fail
              go_meet
              exact ⟨true, rfl, fun h => (by cases h), hb5.out⟩
            case true =>
            by_cases e1 : pr ≠ 6 ∧ pr ≠ 17
            · have t1 : (pr != 6) = true := by rw [bne_iff_ne]; exact e1.1
              have t2 : (pr != 17) = true := by rw [bne_iff_ne]; exact e1.2
              go_wp2_with fail
              go_meet
              exact ⟨true, rfl, fun h => (by cases h), hb5.out⟩
            have hd : pr = 6 ∨ pr = 17 := by omega
            clear e1
            obtain ⟨b1, hb1⟩ : ∃ b, decide (po < 0) = b := ⟨_, rfl⟩
            obtain ⟨b2, hb2⟩ : ∃ b, decide (65535 < po) = b := ⟨_, rfl⟩
            obtain ⟨b3, hb3⟩ : ∃ b, decide (cp < 1) = b := ⟨_, rfl⟩
            obtain ⟨b4, hb4⟩ : ∃ b, decide (8 < cp) = b := ⟨_, rfl⟩
            rcases hd with rfl | rfl
            all_goals
              cases b1
              case true =>
                go_wp2_with fail
                go_meet
                exact ⟨true, rfl, fun h => (by cases h), hb5.out⟩
              case false =>
              cases b2
              case true =>
                go_wp2_with fail
                go_meet
                exact ⟨true, rfl, fun h => (by cases h), hb5.out⟩
              case false =>
              cases b3
              case true =>
                go_wp2_with fail
                go_meet
                exact ⟨true, rfl, fun h => (by cases h), hb5.out⟩
              case false =>
              cases b4
              case true =>
                go_wp2_with fail
                go_meet
                exact ⟨true, rfl, fun h => (by cases h), hb5.out⟩
              case false =>
                go_wp2_with fail
                go_meet
                refine ⟨false, rfl, fun _ => ⟨hRr.out (by first | rfl | trivial), by simp, ?_, ?_, ?_, ?_⟩, hb5.out⟩
                · have := of_decide_eq_false hb1; dsimp only; omega
                · have := of_decide_eq_false hb2; dsimp only; omega
                · have := of_decide_eq_false hb3; dsimp only; omega
                · have := of_decide_eq_false hb4; dsimp only; omega
          case rest =>
          obtain ⟨B, rfl, hB, hb5⟩ := hcut
          have hb6 := hb4'.out.trans (hb5.mono (by have := hb4'.out.size; omega))
          clear hcc4 hrt hRr hbr hb4' hb5 hg4
          replace hb6 := hide hb6
          cases B
          case true =>
            have hbz2 := hbz.out.trans (hb6.out.mono (by omega))
            clear hB hok2 hvp4 hg1
            go_wp2_with fail
            go_ret
            exact ⟨⟨false, rfl, fun h => by cases h⟩, hbz2⟩
          case false =>
            have hok3 := hok2.out (hB rfl)
            clear hB hok2 hvp4 hg1
            replace hok3 := hide hok3
            go_wp2_with fail
            exact ⟨⟨i + 1, by omega, by first | rfl | go_num, hok3.out, hb6.out⟩, by simp only [intOf]; omega⟩
        · obtain rfl : i = m := by omega
          have hlt : ((i : Int) < (i : Int)) = False := by simp
          have hbr2 := hbr
          have cr := fun i => blk_cell (blk_below hbr hzc hc4.out) i
          have hokv : ∀ v ∈ vips, okVp v := fun v hv => by
            obtain ⟨j, hj⟩ := List.mem_iff_getElem?.1 hv
            have := (List.getElem?_eq_some_iff.1 hj).1
            have h5 := hvp4.out.1
            exact hok j v (by omega) hj
          clear hok hvp4 hg1
          replace hokv := hide hokv
          replace hbr2 := hide hbr2
          go_wp2_with fail
          go_meet
          exact ⟨hokv.out, hbr2.out⟩
    case rest =>
    obtain ⟨hokv, hbc⟩ := hcut
    have fin4 := fin3.out hokv
    have hc5 := blk_below hbc hzc hc4.out
    have hbz5 := hbz.out.trans (hbc.mono (Nat.le_of_lt hzc))
    have hvw5 := hvw4.out.below (hbc.mono (Nat.le_of_lt hzc))
    have hzd : z < wc.heap.size := Nat.lt_of_lt_of_le hzc hbc.size
    clear hvp4 hg1 hokv c4 hc4 hzc hbz fin3 hvw4 hbc
    replace fin4 := hide fin4
    replace hc5 := hide hc5
    replace hbz5 := hide hbz5
    replace hvw5 := hide hvw5
    go_upto_block 2 with fail
    have c5 := fun i => blk_cell hc5.out i
    go_cut [] (fun wx => (∀ v ∈ views, okVw v) ∧ Below wc.heap.size wc wx)
    case first =>
      clear fin4
      go_wp2_with fail
      go_loopw [9] (fun iv wr => ∃ i : Nat, i ≤ l ∧ iv = .int .i64 (i : Int) ∧ (∀ (j : Nat) (v : Vw), j < i → views[j]? = some v → okVw v) ∧ Below wc.heap.size wc wr) (fun iv _ => l - (intOf iv).toNat)
      case atStart => exact ⟨0, by omega, rfl, fun j v hj => absurd hj (by omega), Below.refl _ _⟩
      case round =>
        obtain ⟨i, hi, rfl, hok, hbr⟩ := hrel
        by_cases him : i < l
        · have hlt : (i : Int) < (l : Int) := by omega
          obtain ⟨pb, off, v, rfl, hbk, hvi, hcell⟩ := IsT.at (f := vwC) (size := 5) (fun _ => rfl) (by decide) (hvw5.out.below (hbr.mono (by omega))) him
          have hgv := hg2.out v (List.mem_of_getElem? hvi)
          have cr := fun i => blk_cell (blk_below hbr hzd hc5.out) i
          have wi1 : IntKind.i64.wrap ((i : Int) + 1) = ((i + 1 : Nat) : Int) := by rw [wraps62 _ (by omega) (by omega)]; omega
          have hok2 : okVw v → ∀ (j : Nat) (v : Vw), j < i + 1 → views[j]? = some v → okVw v := fun h j v' hj hv' => by
            by_cases e : j = i
            · subst e
              obtain rfl := Option.some.inj (hvi.symm.trans hv')
              exact h
            · exact hok j v' (by omega) hv'
          have hzr := hbr.size
          have hpb : pb < wr.heap.size := by omega
          obtain ⟨⟨v6, hi', lo⟩, bt, lv⟩ := v
          have y0 : wr.cell? ⟨pb, off + i * 5, none⟩ = some (.bool v6) := hcell 0 _ rfl
          have y1 : wr.cell? ⟨pb, off + i * 5 + 1, none⟩ = some (.int .u64 (hi' : Int)) := hcell 1 _ rfl
          have y2 : wr.cell? ⟨pb, off + i * 5 + 2, none⟩ = some (.int .u64 (lo : Int)) := hcell 2 _ rfl
          have y3 : wr.cell? ⟨pb, off + i * 5 + 3, none⟩ = some (.int .i64 bt) := hcell 3 _ rfl
          have y4 : wr.cell? ⟨pb, off + i * 5 + 4, none⟩ = some (.int .i64 lv) := hcell 4 _ rfl
          have qp := pRight_any ⟨v6, hi', lo⟩ hgv bt wr
          obtain ⟨R, hR⟩ : ∃ R, rightP ⟨v6, hi', lo⟩ bt = R := ⟨_, rfl⟩
          rw [hR] at qp
          have hRr : R = true → 0 ≤ bt ∧ (⟨v6, hi', lo⟩ : Adr).rightP bt.toNat = true := fun h => by
            rw [h] at hR
            unfold rightP at hR
            rw [Bool.and_eq_true] at hR
            exact ⟨of_decide_eq_true hR.1, hR.2⟩
          unfold pArr at qp
          dsimp only at qp
          clear hcell hvi hok hgv hR
          unfold okVw at hok2
          dsimp only at hok2
          replace hok2 := hide hok2
          replace hbr := hide hbr
          replace qp := hide qp
          replace hRr := hide hRr
          go_upto_region 14 with fail
          go_cut [145] from 113 to 144 (fun bv wx => ∃ B, bv = .bool B ∧ (B = false → okVw ⟨⟨v6, hi', lo⟩, bt, lv⟩) ∧ Below wr.heap.size wr wx)
          case first =>
            go_wp2_with fail
            refine qp.out.mono ?_
            rintro r w5 ⟨rfl, hb5⟩
            have c6 := fun i => blk_cell (blk_below hb5 (Nat.lt_of_lt_of_le hzd hbr.out.size) (blk_below hbr.out hzd hc5.out)) i
            have y4' := (hb5.cell (p := ⟨pb, off + i * 5 + 4, none⟩) hpb).trans y4
            clear cr hok2 y0 y1 y2 y3 y4
            replace hb5 := hide hb5
            cases R
            case false =>
              go_wp2_with fail
              go_meet
              exact ⟨true, rfl, fun h => (by cases h), hb5.out⟩
            case true =>
            obtain ⟨b1, hb1⟩ : ∃ b, decide (lv < 0) = b := ⟨_, rfl⟩
            obtain ⟨b2, hb2⟩ : ∃ b, decide (3 < lv) = b := ⟨_, rfl⟩
            cases b1
            case true =>
              go_wp2_with fail
              go_meet
              exact ⟨true, rfl, fun h => (by cases h), hb5.out⟩
            case false =>
            cases b2
            case true =>
              go_wp2_with fail
              go_meet
              exact ⟨true, rfl, fun h => (by cases h), hb5.out⟩
            case false =>
              go_wp2_with fail
              go_meet
              refine ⟨false, rfl, fun _ => ⟨hRr.out (by first | rfl | trivial), ?_, ?_⟩, hb5.out⟩
              · have := of_decide_eq_false hb1; dsimp only; omega
              · have := of_decide_eq_false hb2; dsimp only; omega
          case rest =>
          obtain ⟨B, rfl, hB, hb5⟩ := hcut
          have hb6 := hbr.out.trans (hb5.mono hzr)
          clear hRr qp hbr hb5 cr y0 y1 y2 y3 y4
          replace hb6 := hide hb6
          cases B
          case true =>
            have hbz2 := hbz5.out.trans (hb6.out.mono (Nat.le_of_lt hzd))
            clear hB hok2 hvw5 hg2
            go_wp2_with fail
            go_ret
            exact ⟨⟨false, rfl, fun h => by cases h⟩, hbz2⟩
          case false =>
            have hok3 := hok2.out (hB rfl)
            clear hB hok2 hvw5 hg2
            replace hok3 := hide hok3
            go_wp2_with fail
            exact ⟨⟨i + 1, by omega, by first | rfl | go_num, hok3.out, hb6.out⟩, by simp only [intOf]; omega⟩
        · obtain rfl : i = l := by omega
          have hlt : ((i : Int) < (i : Int)) = False := by simp
          have hbr2 := hbr
          have cr := fun i => blk_cell (blk_below hbr hzd hc5.out) i
          have hokv : ∀ v ∈ views, okVw v := fun v hv => by
            obtain ⟨j, hj⟩ := List.mem_iff_getElem?.1 hv
            have := (List.getElem?_eq_some_iff.1 hj).1
            have h5 := hvw5.out.1
            exact hok j v (by omega) hj
          clear hok hvw5 hg2
          replace hokv := hide hokv
          replace hbr2 := hide hbr2
          go_wp2_with fail
          go_meet
          exact ⟨hokv.out, hbr2.out⟩
    case rest =>
    obtain ⟨hokw, hbe⟩ := hcut
    have fin5 := fin4.out hokw
    have hbf := hbz5.out.trans (hbe.mono (Nat.le_of_lt hzd))
    clear hokw hvw5 hg2 hbe hbz5 c5 hc5 fin4
    replace fin5 := hide fin5
    replace hbf := hide hbf
    go_wp2_with fail
    go_ret
    exact ⟨⟨true, rfl, fun _ => fin5.out⟩, hbf.out⟩
end Conf18
end Go.Proofs.YtcpokkkdmenmgaaDoor
/- The walk of ConfRemarks: it answers true. Conditions: rows in their capacity; the cell of bytealg.MaxLen. -/
namespace Go.Proofs.YtcpokkkdmenmgaaDoor
open Go.RowKit Go.ChangeShapes Go.WideShapes Go.ChangeAt Go.Deep
namespace Conf18
open Addr05
theorem fewC_good {c : Cfg} {M : Nat} (h : c.good M) : (fewC c).good M := ⟨fun n hn => h.nodes n (List.mem_of_mem_take hn), fun n hn => h.vips n (List.mem_of_mem_take hn), fun n hn => h.views n (List.mem_of_mem_take hn), h.s0, h.s1⟩
set_option maxRecDepth 20000 in
set_option maxHeartbeats 16000000 in
theorem remarks_walk (c : Cfg) (M : Nat) (hg : c.good M) (hM : M ≤ 9223372036854775807) (w : World) (A1 A2 A3 : Option Addr) (k1 k2 k3 : Nat) (hR : CfgR w w.heap.size c A1 A2 A3 k1 k2 k3) (h1 : c.nodes.length ≤ k1 ∧ k1 ≤ maxLen) (h2 : c.vips.length ≤ k2 ∧ k2 ≤ maxLen) (h3 : c.views.length ≤ k3 ∧ k3 ≤ maxLen) (rm : List UInt8) (hrl : rm.length ≤ 9223372036854775807) (hm : MaxAt w) :
    Calls Tryd.prog 3 #[.agg (cfC c (.slice A1 c.nodes.length k1) (.slice A2 c.vips.length k2) (.slice A3 c.views.length k3)), .string (str rm)] w fun e w' => e = .returned (.bool true) ∧ Below w.heap.size w w' := by
  have hszr : (str rm).size = rm.length := size_str rm
  obtain ⟨rem, hrem⟩ : ∃ x, rm.take 60 = x := ⟨_, rfl⟩
  have hrem60 : rem.length ≤ 60 := by rw [← hrem, List.length_take]; omega
  obtain ⟨z, hz⟩ : ∃ z, w.heap.size = z := ⟨_, rfl⟩
  have hgf := fewC_good hg
  have hRf := fun w' (hb : Below w.heap.size w w') => hR.few.on hb
  have hqf := fun w' (hb : Below w.heap.size w w') => cfew_any c w' A1 A2 A3 k1 k2 k3 (hR.on hb) h1 h2 h3
  have hn60 : (fewC c).nodes.length ≤ 60 := by show (c.nodes.take 60).length ≤ 60; rw [List.length_take]; omega
  have hv20 : (fewC c).vips.length ≤ 20 := by show (c.vips.take 20).length ≤ 20; rw [List.length_take]; omega
  have hw20 : (fewC c).views.length ≤ 20 := by show (c.views.take 20).length ≤ 20; rw [List.length_take]; omega
  have hkn : (fewC c).nodes.length ≤ k1 ∧ k1 ≤ maxLen := ⟨by show (c.nodes.take 60).length ≤ k1; rw [List.length_take]; omega, h1.2⟩
  obtain ⟨c1, hc1⟩ : ∃ x, fewC c = x := ⟨_, rfl⟩
  rw [hc1] at hgf hn60 hv20 hw20 hkn hRf hqf
  rw [hz] at hRf hqf
  clear hc1 hR hg h1 h2 h3
  obtain ⟨w1, hw1⟩ : ∃ w1, w.alloc (.cells (cfC c (.slice A1 c.nodes.length k1) (.slice A2 c.vips.length k2) (.slice A3 c.views.length k3)) 30) = w1 := ⟨_, rfl⟩
  have hb1 : Below w.heap.size w w1 := hw1 ▸ (Below.refl _ _).alloc (Nat.le_refl _) _
  have hcz1 : w1.heap[w.heap.size]? = some (.cells (cfC c (.slice A1 c.nodes.length k1) (.slice A2 c.vips.length k2) (.slice A3 c.views.length k3)) 30 (0, 0)) := hw1 ▸ blk_new _ _ _
  have hz1 : z < w1.heap.size := by rw [← hz]; exact lt_of_blk hcz1
  rw [hz] at hb1 hcz1
  have q1 := hqf w1 hb1
  clear hqf
  replace hm := hide hm
  replace hb1 := hide hb1
  replace hcz1 := hide hcz1
  replace hRf := hide hRf
  replace hgf := hide hgf
  replace hrem := hide hrem
  replace q1 := hide q1
  go_enter Tryd.func3, Tryd.ntmps3
  rw [hz]
  go_upto_region 1 with fail
  clear hw1
  apply wp_region_lit
  refine wpl_ld rfl 30 (.tmp 2) rfl z rfl (cfC c (.slice A1 c.nodes.length k1) (.slice A2 c.vips.length k2) (.slice A3 c.views.length k3)) _ hcz1.out Tryd.underlying30 rfl (by kernel_rfl) ?_
  refine wpList_plain rfl fun K hK => ?_
  go_simp
  refine (q1.out).mono ?_
  rintro e w2 ⟨rfl, hb2⟩
  go_simp
  refine hK _ _ ?_
  clear hK K
  have hcz2 := blk_below hb2 hz1 hcz1.out
  refine wpl_st rfl 30 (.tmp 2) (.tmp 13) rfl z 0 rfl (cfC c1 (.slice A1 c1.nodes.length k1) (.slice A2 c1.vips.length k2) (.slice A3 c1.views.length k3)) rfl hcz2 (Nat.le_refl 11) (by kernel_rfl) (cf_one _ _ _ rfl rfl rfl _ _ _ _ _ _ _ _) fun w3 hcz3 g3 => ?_
  rw [putA_whole _ _ (by rfl)] at hcz3
  have hb3 : Below z w w3 := (hb1.out.trans (hb2.mono (Nat.le_of_lt hz1))).trans (below_grown g3 (by have := hb2.size; have := hb1.out.size; omega) (Nat.le_refl _))
  have hz3 : z < w3.heap.size := lt_of_blk hcz3
  clear hb2 hcz2 hb1 hcz1 q1 g3
  have hm3 := hm.out.below (by rw [hz]; exact hb3)
  have hR3 := hRf.out w3 hb3
  have qw := cawake_any w3 hm3
  replace hb3 := hide hb3
  replace hcz3 := hide hcz3
  replace hm3 := hide hm3
  replace hR3 := hide hR3
  replace qw := hide qw
  refine wpList_nil ?_
  go_simp
  go_upto_if 16 with fail
  go_cut [1] (fun sv wx => sv = .string (str rem) ∧ w3 = wx)
  case first =>
    by_cases h60 : 60 < rm.length
    · have t1 : decide ((60 : Int) < (rm.length : Int)) = true := by rw [decide_eq_true_eq]; omega
      have i1 : (60 : Int) ≤ (rm.length : Int) := by omega
      have ex : (str rm).extract 0 60 = str rem := by rw [← hrem.out]; exact str_extract rm 0 60
      clear hrem
      go_wp2_with fail
      go_meet
      exact ⟨by first | rfl | rw [ex], rfl⟩
    · have t1 : decide ((60 : Int) < (rm.length : Int)) = false := by rw [decide_eq_false_iff_not]; omega
      have e1 : rem = rm := by rw [← hrem.out]; exact List.take_of_length_le (by omega)
      subst e1
      go_wp2_with fail
      go_meet
      exact ⟨rfl, rfl⟩
  case rest =>
  obtain ⟨rfl, rfl⟩ := hcut
  clear hrem hszr hrl
  have hsz : (str rem).size = rem.length := size_str rem
  go_upto_block 0 with fail
  go_cut [] (fun wx => okR rem ∧ w3 = wx)
  case first =>
    clear hRf hgf hR3 hcz3
    go_wp2_with fail
    go_loopw [5] (fun iv wr => ∃ i : Nat, i ≤ rem.length ∧ iv = .int .i64 (i : Int) ∧ (∀ (j : Nat) (x : UInt8), j < i → rem[j]? = some x → rightC x.toNat = true ∧ x ≠ 10) ∧ w3 = wr) (fun iv _ => rem.length - (intOf iv).toNat)
    case atStart => exact ⟨0, by omega, rfl, fun j x hj => absurd hj (by omega), rfl⟩
    case round =>
      obtain ⟨i, hi, rfl, hok, rfl⟩ := hrel
      by_cases hin : i < rem.length
      · have hlt : (i : Int) < (rem.length : Int) := by omega
        have i2 : (0 : Int) ≤ (i : Int) := by omega
        obtain ⟨x, hx⟩ : ∃ x, rem[i]? = some x := ⟨_, List.getElem?_eq_getElem hin⟩
        have hks2 : i < (str rem).size := by omega
        have ek := str_get rem i x hx hks2
        have qr := fun w => lexRight_any x.toNat w
        obtain ⟨rb, hrb⟩ : ∃ b, rightC x.toNat = b := ⟨_, rfl⟩
        rw [hrb] at qr
        obtain ⟨b10, hb10⟩ : ∃ b, ((x.toNat : Int) == 10) = b := ⟨_, rfl⟩
        have wi1 : IntKind.i64.wrap ((i : Int) + 1) = ((i + 1 : Nat) : Int) := by rw [wraps62 _ (by omega) (by omega)]; omega
        have hok2 : rb = true → b10 = false → ∀ (j : Nat) (y : UInt8), j < i + 1 → rem[j]? = some y → rightC y.toNat = true ∧ y ≠ 10 := fun h1 h2 j y hj hy => by
          by_cases e : j = i
          · subst e
            obtain rfl := Option.some.inj (hx.symm.trans hy)
            refine ⟨hrb.trans h1, ?_⟩
            rintro rfl
            rw [h2] at hb10
            revert hb10
            decide
          · exact hok j y (by omega) hy
        clear hok hx hrb
        replace qr := hide qr
        replace hok2 := hide hok2
        go_wp2_with fail
        refine (qr.out w3).mono ?_
        rintro e w4 ⟨rfl, rfl⟩
        cases rb
        · go_wp2_with fail
          refine qw.out.mono ?_
          rintro e w5 ⟨rfl, hb5⟩
          go_wp2_with fail
          go_ret
          exact ⟨rfl, hb3.out.trans (hb5.mono (Nat.le_of_lt hz3))⟩
        · cases b10
          · have hok3 := hok2.out rfl rfl
            clear hok2 qw
            replace hok3 := hide hok3
            go_wp2_with fail
            exact ⟨⟨i + 1, by omega, by first | rfl | go_num, hok3.out, by first | rfl | trivial⟩, by simp only [intOf]; omega⟩
          · go_wp2_with fail
            refine qw.out.mono ?_
            rintro e w5 ⟨rfl, hb5⟩
            go_wp2_with fail
            go_ret
            exact ⟨rfl, hb3.out.trans (hb5.mono (Nat.le_of_lt hz3))⟩
      · obtain rfl : i = rem.length := by omega
        have hlt : ((rem.length : Int) < (rem.length : Int)) = False := by simp
        have hokr : okR rem := fun x hx => by
          obtain ⟨j, hj⟩ := List.mem_iff_getElem?.1 hx
          exact hok j x (List.getElem?_eq_some_iff.1 hj).1 hj
        clear hok qw
        replace hokr := hide hokr
        go_wp2_with fail
        go_meet
        exact ⟨hokr.out, rfl⟩
  case rest =>
  obtain ⟨hokr, rfl⟩ := hcut
  clear qw
  have qm := may_any c1 M hgf.out hM w3 A1 A2 A3 k1 k2 k3 hR3.out hkn (by omega) (by omega) (by omega)
  replace hokr := hide hokr
  replace qm := hide qm
  go_upto_region 9 with fail
  apply wp_region_lit
  refine wpl_ld rfl 30 (.tmp 2) rfl z rfl (cfC c1 (.slice A1 c1.nodes.length k1) (.slice A2 c1.vips.length k2) (.slice A3 c1.views.length k3)) _ hcz3.out Tryd.underlying30 rfl (by kernel_rfl) ?_
  refine wpList_plain rfl fun K hK => ?_
  go_simp
  refine (qm.out).mono ?_
  rintro e w4 ⟨⟨b, rfl, hbm⟩, hb4⟩
  have hbw4 := hb3.out.trans (hb4.mono (Nat.le_of_lt hz3))
  have hcz4 := blk_below hb4 hz3 hcz3.out
  have hz4 := lt_of_blk hcz4
  have hm4 := hm3.out.below hb4
  have hR4 := hRf.out w4 hbw4
  clear hm3 hR3 hcz3 hb3 hb4 qm
  replace hm4 := hide hm4
  replace hR4 := hide hR4
  replace hcz4 := hide hcz4
  replace hbw4 := hide hbw4
  replace hbm := hide hbm
  go_simp
  refine hK _ _ ?_
  clear hK K
  iterate 1 (refine wpList_plain rfl fun K hK => ?_; go_simp; refine hK _ _ ?_; clear hK K)
  refine wpList_nil ?_
  go_simp
  cases b
  · have qw := cawake_any w4 hm4.out
    clear hcz4 hR4 hRf hgf hbm
    replace qw := hide qw
    go_wp2_with fail
    refine qw.out.mono ?_
    rintro e w5 ⟨rfl, hb5⟩
    go_wp2_with fail
    go_ret
    exact ⟨rfl, hbw4.out.trans (hb5.mono (Nat.le_of_lt hz4))⟩
  have hmay := hbm.out rfl
  have hback := remarks_back hmay hgf.out hn60 hv20 hw20 hokr.out
  have hlens := more_len hmay hgf.out hn60 hv20 hw20 hrem60
  have qt := text_any2 c1 M hgf.out hmay w4 A1 A2 A3 k1 k2 k3 hR4.out hn60 hv20 hw20
  obtain ⟨S, hS⟩ : ∃ x, textR (rowsF c1) = x := ⟨_, rfl⟩
  rw [hS] at hback hlens qt
  obtain ⟨hl1, hl2⟩ := hlens
  clear hbm hmay hS hgf hR4
  replace qt := hide qt
  replace hback := hide hback
  replace hl1 := hide hl1
  go_upto_region 11 with fail
  apply wp_region_lit
  refine wpl_ld rfl 30 (.tmp 2) rfl z rfl (cfC c1 (.slice A1 c1.nodes.length k1) (.slice A2 c1.vips.length k2) (.slice A3 c1.views.length k3)) _ hcz4.out Tryd.underlying30 rfl (by kernel_rfl) ?_
  refine wpList_plain rfl fun K hK => ?_
  go_simp
  refine (qt.out).mono ?_
  rintro e w5 ⟨rfl, hb5⟩
  have hbw5 := hbw4.out.trans (hb5.mono (Nat.le_of_lt hz4))
  have hcz5 := blk_below hb5 hz4 hcz4.out
  have hz5 := lt_of_blk hcz5
  have hm5 := hm4.out.below hb5
  clear hm4 hcz4 hbw4 hb5 qt
  replace hm5 := hide hm5
  replace hcz5 := hide hcz5
  replace hbw5 := hide hbw5
  go_simp
  refine hK _ _ ?_
  clear hK K
  iterate 1 (refine wpList_plain rfl fun K hK => ?_; go_simp; refine hK _ _ ?_; clear hK K)
  refine wpList_nil ?_
  go_simp
  have hszS : (str S).size = S.length := size_str S
  have hszm : (str rem).size = rem.length := hsz
  go_upto_block 2 with fail
  go_cut [7] (fun tv wx => tv = .string (str (moreF rem S)) ∧ w5 = wx)
  case first =>
    clear hRf hcz5 hm5 hbw5 hback hl1
    go_wp2_with fail
    go_loopw [7, 8] (fun tv iv wr => ∃ i : Nat, i ≤ S.length ∧ iv = .int .i64 (i : Int) ∧ tv = .string (str (10 :: (S.take i).flatMap (mb rem))) ∧ w5 = wr) (fun _ iv _ => S.length - (intOf iv).toNat)
    case atStart => exact ⟨0, by omega, rfl, rfl, rfl⟩
    case round =>
      obtain ⟨i, hi, rfl, rfl, rfl⟩ := hrel
      by_cases hin : i < S.length
      · have hlt : (i : Int) < (S.length : Int) := by omega
        have i2 : (0 : Int) ≤ (i : Int) := by omega
        obtain ⟨x, hx⟩ : ∃ x, S[i]? = some x := ⟨_, List.getElem?_eq_getElem hin⟩
        have hks2 : i < (str S).size := by omega
        have ek := str_get S i x hx hks2
        have hst := more_step (rem := rem) hx
        have hlT := take_flat_len rem 60 hrem60 (S.take i)
        have hlt2 : (S.take i).length = i := by rw [List.length_take]; omega
        obtain ⟨T, hT⟩ : ∃ T, 10 :: (S.take i).flatMap (mb rem) = T := ⟨_, rfl⟩
        have hTl : T.length ≤ 1 + i * 65 := by
          rw [hlt2] at hlT
          rw [← hT, List.length_cons]
          omega
        rw [hT] at hst ⊢
        have hex : (str S).extract i (i + 1) = str [x] := by
          rw [str_extract S i (i + 1), List.take_add_one, hx]
          rw [List.drop_append_of_le_length (by omega), List.drop_of_length_le (by omega)]
          rfl
        obtain ⟨i1, hi1⟩ : ∃ k, i + 1 = k := ⟨_, rfl⟩
        have hbig : i * 65 ≤ 65536 * 65 := Nat.mul_le_mul (by omega) (Nat.le_refl _)
        have wi1 : IntKind.i64.wrap ((i : Int) + 1) = (i1 : Int) := by rw [wraps62 _ (by omega) (by omega)]; omega
        have j1 : i1 ≤ (str S).size := by omega
        have j2 : i ≤ i1 := by omega
        have j3 : (i1 : Int) ≤ (S.length : Int) := by omega
        rw [hi1] at hst hex
        obtain ⟨b1, hb1⟩ : ∃ b, ((x.toNat : Int) == 10) = b := ⟨_, rfl⟩
        obtain ⟨b2, hb2⟩ : ∃ b, ((x.toNat : Int) == 32) = b := ⟨_, rfl⟩
        have hsT : (str T).size = T.length := size_str T
        clear hx hT hlT hlt2
        cases b1
        · cases b2
          · have hmb : mb rem x = [x] := by
              unfold mb
              rw [if_neg (by rintro rfl; revert hb1; decide), if_neg (by rintro rfl; revert hb2; decide)]
            rw [hmb] at hst
            obtain ⟨T2, hT2⟩ : ∃ T2, T ++ [x] = T2 := ⟨_, rfl⟩
            have hc : str T ++ str [x] = str T2 := by rw [← hT2]; exact str_append _ _
            have zc : ¬ 9223372036854775807 < (str T).size + (str [x]).size := by
              have : (str [x]).size = 1 := rfl
              omega
            rw [hT2] at hst
            clear hT2
            replace hst := hide hst
            replace hi1 := hide hi1
            go_wp2_with fail
            exact ⟨⟨i1, by omega, by first | rfl | go_num, by rw [hst.out], by first | rfl | trivial⟩, by simp only [intOf]; have := hi1.out; omega⟩
          · have hmb : mb rem x = [32, 9, 32] := by
              have hx32 : x = 32 := by
                have : (x.toNat : Int) = 32 := beq_iff_eq.1 hb2
                exact UInt8.toNat.inj (by show x.toNat = 32; omega)
              rw [hx32]
              rfl
            rw [hmb] at hst
            obtain ⟨T2, hT2⟩ : ∃ T2, T ++ [32, 9, 32] = T2 := ⟨_, rfl⟩
            have hc : str T ++ ByteArray.mk #[32, 9, 32] = str T2 := by rw [← hT2]; exact str_append _ _
            have zc : ¬ 9223372036854775807 < (str T).size + 3 := by omega
            rw [hT2] at hst
            clear hT2 hex
            replace hst := hide hst
            replace hi1 := hide hi1
            go_wp2_with fail
            exact ⟨⟨i1, by omega, by first | rfl | go_num, by rw [hst.out], by first | rfl | trivial⟩, by simp only [intOf]; have := hi1.out; omega⟩
        · have hmb : mb rem x = [32, 35] ++ rem ++ [10, 9, 10] := by
            have hx10 : x = 10 := by
              have : (x.toNat : Int) = 10 := beq_iff_eq.1 hb1
              exact UInt8.toNat.inj (by show x.toNat = 10; omega)
            rw [hx10]
            rfl
          rw [hmb] at hst
          obtain ⟨T2, hT2⟩ : ∃ T2, T ++ [32, 35] = T2 := ⟨_, rfl⟩
          obtain ⟨T3, hT3⟩ : ∃ T3, T2 ++ rem = T3 := ⟨_, rfl⟩
          obtain ⟨T4, hT4⟩ : ∃ T4, T3 ++ [10, 9, 10] = T4 := ⟨_, rfl⟩
          have c2 : str T ++ ByteArray.mk #[32, 35] = str T2 := by rw [← hT2]; exact str_append _ _
          have c3 : str T2 ++ str rem = str T3 := by rw [← hT3]; exact str_append _ _
          have c4 : str T3 ++ ByteArray.mk #[10, 9, 10] = str T4 := by rw [← hT4]; exact str_append _ _
          have l2 : (str T2).size = T.length + 2 := by rw [size_str, ← hT2]; simp
          have l3 : (str T3).size = (str T2).size + rem.length := by rw [size_str, size_str, ← hT3]; simp
          have z2 : ¬ 9223372036854775807 < (str T).size + 2 := by omega
          have z3 : ¬ 9223372036854775807 < (str T2).size + (str rem).size := by omega
          have z4 : ¬ 9223372036854775807 < (str T3).size + 3 := by omega
          have hfin : T ++ ([32, 35] ++ rem ++ [10, 9, 10]) = T4 := by rw [← hT4, ← hT3, ← hT2]; simp
          rw [hfin] at hst
          clear hT2 hT3 hT4 hfin l2 l3 hex
          replace hst := hide hst
          replace hi1 := hide hi1
          go_wp2_with fail
          exact ⟨⟨i1, by omega, by first | rfl | go_num, by rw [hst.out], by first | rfl | trivial⟩, by simp only [intOf]; have := hi1.out; omega⟩
      · obtain rfl : i = S.length := by omega
        have hlt : ((S.length : Int) < (S.length : Int)) = False := by simp
        rw [List.take_length]
        go_wp2_with fail
        go_meet
        exact ⟨rfl, rfl⟩
  case rest =>
  obtain ⟨rfl, rfl⟩ := hcut
  obtain ⟨X, hX⟩ : ∃ X, moreF rem S = X := ⟨_, rfl⟩
  rw [hX] at hback hl1 ⊢
  have qa := (confParse_any X hl1.out w5 hm5.out).mono fun e w' h => readEnd_of h
  unfold ReadEnd at qa
  rw [hback.out] at qa
  clear hX hback hl1
  replace qa := hide qa
  go_upto_region 21 with fail
  apply wp_region_lit
  iterate 1 (refine wpList_plain rfl fun K hK => ?_; go_simp; refine hK _ _ ?_; clear hK K)
  refine wpList_plain rfl fun K hK => ?_
  go_simp
  refine (qa.out).mono ?_
  rintro e w6 ⟨hb6, c', no, en, B1, B2, B3, j1, j2, j3, hcf, hs, rfl, hR6⟩
  obtain ⟨hc', rfl, rfl⟩ : c' = { c1 with fs := true, ds := true } ∧ no = 0 ∧ en = 0 := ⟨(congrArg Prod.fst hcf).symm, (congrArg (fun p => p.2.1) hcf).symm, (congrArg (fun p => p.2.2) hcf).symm⟩
  subst hc'
  clear hcf
  go_simp
  refine hK _ _ ?_
  clear hK K
  iterate 4 (refine wpList_plain rfl fun K hK => ?_; go_simp; refine hK _ _ ?_; clear hK K)
  refine wpl_new rfl rfl 30 _ (alloc_cf _ rfl) 9 rfl (.tmp 74) rfl _ (fun _ => rfl) (fun _ => rfl) rfl (by kernel_rfl) (cf_one _ _ _ rfl rfl rfl _ _ _ _ _ _ _ _) ?_
  intro w7 hg7 hb7 hz7
  iterate 2 (refine wpList_plain rfl fun K hK => ?_; go_simp; refine hK _ _ ?_; clear hK K)
  refine wpList_nil ?_
  go_simp
  have hb67 := hb6.trans (hb7.mono hb6.size)
  have hbw7 := hbw5.out.trans (hb67.mono (Nat.le_of_lt hz5))
  have hcz7 := blk_below hb67 hz5 hcz5.out
  have hR7 := hRf.out w7 hbw7
  have hR7' := hR6.on hb7
  have qs := same_any c1 ⟨by omega, by omega, by omega⟩ w7 A1 A2 A3 B1 B2 B3 k1 k2 k3 j1 j2 j3 hR7 ⟨hR7'.nodes, hR7'.vips, hR7'.views⟩
  have hm7 := hm5.out.below hb67
  clear hb6 hb7 hb67 hR6 hR7 hR7' hs hcz5 hbw5 hm5 qa hRf
  replace hg7 := hide hg7
  replace hcz7 := hide hcz7
  replace hbw7 := hide hbw7
  replace qs := hide qs
  replace hm7 := hide hm7
  go_upto_region 22 with fail
  apply wp_region_lit
  refine wpl_ld rfl 30 (.tmp 2) rfl z rfl (cfC c1 (.slice A1 c1.nodes.length k1) (.slice A2 c1.vips.length k2) (.slice A3 c1.views.length k3)) _ hcz7.out Tryd.underlying30 rfl (by kernel_rfl) ?_
  refine wpl_ld rfl 30 (.tmp 9) rfl w6.heap.size rfl (cfC c1 (.slice B1 c1.nodes.length j1) (.slice B2 c1.vips.length j2) (.slice B3 c1.views.length j3)) _ hg7.out Tryd.underlying30 rfl (by kernel_rfl) ?_
  refine wpList_plain rfl fun K hK => ?_
  go_simp
  refine (qs.out).mono ?_
  rintro e w8 ⟨rfl, hb8⟩
  go_simp
  refine hK _ _ ?_
  clear hK K
  have hbf := hbw7.out.trans (hb8.mono (by have := lt_of_blk hcz7.out; omega))
  have qw := cawake_any w8 (hm7.out.below hb8)
  clear hb8 hm7 qs hbw7 hcz7 hg7
  replace hbf := hide hbf
  replace qw := hide qw
  iterate 9 (refine wpList_step fun K hK => ?_; go_simp; refine hK _ _ ?_; clear hK K)
  refine wpList_step fun K hK => ?_
  go_simp
  refine qw.out.mono ?_
  rintro e w9 ⟨rfl, hb9⟩
  go_simp
  refine hK _ _ ?_
  clear hK K
  iterate 2 (refine wpList_step fun K hK => ?_; go_simp; refine hK _ _ ?_; clear hK K)
  refine wpList_nil ?_
  go_simp
  have hbz := hbf.out.trans (hb9.mono (by have := hbf.out.size; omega))
  clear hb9 qw
  replace hbz := hide hbz
  go_wp2_with fail
  go_ret
  exact ⟨rfl, hbz.out⟩
end Conf18
end Go.Proofs.YtcpokkkdmenmgaaDoor
/- ConfRemarks for what a row hands over. Condition: the cell of bytealg.MaxLen. -/
namespace Go.Proofs.YtcpokkkdmenmgaaDoor
open Go.RowKit Go.ChangeShapes Go.WideShapes Go.ChangeAt Go.Deep
namespace Conf18
open Addr05
theorem remarks_row (A1 : Option Addr) (n1 k1 : Nat) (e1 : List Nd) (A2 : Option Addr) (n2 k2 : Nat) (e2 : List Vp) (A3 : Option Addr) (n3 k3 : Nat) (e3 : List Vw) (f d : Int) (a : Bool) (b e : Int) (a' : Bool) (b' e' : Int) (s : ByteArray) (w : World)
    (h1 : IsT ndC 7 w w.heap.size A1 n1 e1 ∧ ∀ x ∈ e1, Nd.fits x) (h1n : n1 ≤ k1) (h1c : k1 ≤ maxLen) (h2 : IsT vpC 7 w w.heap.size A2 n2 e2 ∧ ∀ x ∈ e2, Vp.fits x) (h2n : n2 ≤ k2) (h2c : k2 ≤ maxLen) (h3 : IsT vwC 5 w w.heap.size A3 n3 e3 ∧ ∀ x ∈ e3, Vw.fits x) (h3n : n3 ≤ k3) (h3c : k3 ≤ maxLen)
    (_ : (Lit.int .i64 f).wf = true) (_ : (Lit.int .i64 d).wf = true) (g1 : (Lit.int .u64 b).wf = true) (g2 : (Lit.int .u64 e).wf = true) (g3 : (Lit.int .u64 b').wf = true) (g4 : (Lit.int .u64 e').wf = true) (hs : s.size ≤ maxLen) (hm : MaxAt w) :
    Calls Tryd.prog 3 #[.agg #[.slice A1 n1 k1, .slice A2 n2 k2, .slice A3 n3 k3, .int .i64 f, .int .i64 d, .bool a, .int .u64 b, .int .u64 e, .bool a', .int .u64 b', .int .u64 e'], .string s] w fun e w' => e = .returned (.bool true) ∧ Below w.heap.size w w' := by
  obtain ⟨c, hR, hg, c1, c2, c3, hv⟩ := cfg_given (k1 := k1) (k2 := k2) (k3 := k3) (f := f) (d := d) (a := a) (a' := a') h1 h2 h3 g1 g2 g3 g4
  rw [hv]
  have h := remarks_walk c 9223372036854775807 hg (Nat.le_refl _) w A1 A2 A3 k1 k2 k3 hR ⟨by omega, h1c⟩ ⟨by omega, h2c⟩ ⟨by omega, h3c⟩ s.data.toList (by unfold maxLen at hs; rw [Array.length_toList]; exact hs) hm
  rw [str_data] at h
  exact h
end Conf18
end Go.Proofs.YtcpokkkdmenmgaaDoor
