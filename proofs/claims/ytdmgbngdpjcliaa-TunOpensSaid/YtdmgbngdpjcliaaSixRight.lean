/- six.Right and the law's right by contract: which headers may be. Conditions: slices that read as lists. -/
import Derived.Test.YtdmgbngdpjcliaaSixRightExt
import Derived.Test.YtdmgbngdpjcliaaSixSmall
namespace Go.Proofs.Ytdmgbngdpjcliaa
open Go.RowKit Go.ChangeShapes Go.WideShapes Go.ChangeAt Go.Deep
namespace Six
theorem IsX.take {w : World} {B n m : Nat} {A : Option Addr} {es : List Ext} (h : IsX w B A n es) (hm : m ≤ n) : IsX w B A m (es.take m) := by
  obtain ⟨hl, hv, hp⟩ := h
  refine ⟨by rw [List.length_take]; omega, ⟨by rw [cells_length, List.length_take]; omega, fun h0 => ?_⟩, fun e he => hp e (List.mem_of_mem_take he)⟩
  obtain ⟨b, off, e, hb, hc⟩ := hv.2 (by omega)
  refine ⟨b, off, e, hb, fun i hi => ?_⟩
  have h1 : cells es = cells (es.take m) ++ cells (es.drop m) := by
    unfold cells
    rw [← List.flatMap_append, List.take_append_drop]
  have hl2 : (cells (es.take m)).length = m * 2 := by rw [cells_length, List.length_take]; omega
  have hpre : cells (es.take m) = (cells es).take (m * 2) := by rw [h1, ← hl2, List.take_left]
  have hi2 : i < (cells es).length := by rw [cells_length]; rw [cells_length, List.length_take] at hi; omega
  rw [hc i hi2]
  simp [hpre, List.getElem_take]
def pes (es : List Ext) : List (Int × List UInt8) := es.map Ext.pe
theorem pes_length (es : List Ext) : (pes es).length = es.length := by simp [pes]
theorem pes_take (es : List Ext) (m : Nat) : pes (es.take m) = (pes es).take m := by simp [pes, List.map_take]
theorem pes_get {es : List Ext} {i : Nat} {e : Ext} (h : es[i]? = some e) : (pes es)[i]? = some (e.k, e.xs) := by simp [pes, h, Ext.pe]
theorem pes_frag (es : List Ext) : beN (partB es) 1 2 / 8 = fragP (pes es) := by rw [partB_eq]; rfl
/-- May a header be? -/
def rightHB (cls lab hop : Int) (sv dv : Bool) (proto : Int) (es : List (Int × List UInt8)) : Bool :=
  decide (0 ≤ cls ∧ cls ≤ 255 ∧ 0 ≤ hop ∧ hop ≤ 255 ∧ 0 ≤ lab ∧ lab ≤ 1048575 ∧ sv = true ∧ dv = true ∧ 0 ≤ proto ∧ proto ≤ 255 ∧ isB proto = false ∧ es.length ≤ 8) && rightTo es es.length
theorem rightHB_no {cls lab hop : Int} {sv dv : Bool} {proto : Int} {es : List (Int × List UInt8)}
    (h : ¬ (0 ≤ cls ∧ cls ≤ 255 ∧ 0 ≤ hop ∧ hop ≤ 255 ∧ 0 ≤ lab ∧ lab ≤ 1048575 ∧ sv = true ∧ dv = true ∧ 0 ≤ proto ∧ proto ≤ 255 ∧ isB proto = false ∧ es.length ≤ 8)) : rightHB cls lab hop sv dv proto es = false := by
  unfold rightHB
  rw [decide_eq_false h]
  rfl
theorem rightHB_yes {cls lab hop : Int} {sv dv : Bool} {proto : Int} {es : List (Int × List UInt8)}
    (h : 0 ≤ cls ∧ cls ≤ 255 ∧ 0 ≤ hop ∧ hop ≤ 255 ∧ 0 ≤ lab ∧ lab ≤ 1048575 ∧ sv = true ∧ dv = true ∧ 0 ≤ proto ∧ proto ≤ 255 ∧ isB proto = false ∧ es.length ≤ 8) : rightHB cls lab hop sv dv proto es = rightTo es es.length := by
  unfold rightHB
  rw [decide_eq_true h]
  rfl
theorem rightTo_stop {es : List (Int × List UInt8)} {m : Nat} {e : Int × List UInt8} (h : es[m]? = some e) (hn : (rightExtB e.1 (m : Int) e.2 && decide (fragP (es.take m) = 0)) = false) : rightTo es es.length = false := by
  rcases hr : rightTo es es.length with _ | _
  · rfl
  · have hl := (List.getElem?_eq_some_iff.1 h).1
    have h1 := rightTo_le es hr (k := m + 1) (by omega)
    rw [rightTo_succ es m e h, hn] at h1
    simp at h1
set_option maxRecDepth 4000 in
set_option maxHeartbeats 8000000 in
theorem lawRight_any (cls lab hop : Int) (sv : Bool) (shi slo : Int) (dv : Bool) (dhi dlo : Int) (X : Option Addr) (n c : Nat) (proto : Int) (es : List Ext) (w : World) (hx : IsX w w.heap.size X n es) (hnc : n ≤ c) (hcm : c ≤ maxLen) :
    Calls Try.prog 17 #[hdV cls lab hop sv shi slo dv dhi dlo X n c proto] w fun e w' => e = .returned (.bool (rightHB cls lab hop sv dv proto (pes es))) ∧ Below w.heap.size w w' := by
  obtain ⟨r, hr⟩ : ∃ r, rightHB cls lab hop sv dv proto (pes es) = r := ⟨_, rfl⟩
  rw [hr]
  unfold maxLen at hcm
  have hbox := blk_new w 29 #[.int .i64 cls, .int .i64 lab, .int .i64 hop, .bool sv, .int .u64 shi, .int .u64 slo, .bool dv, .int .u64 dhi, .int .u64 dlo, .slice X n c, .int .i64 proto]
  obtain ⟨w1, hw1⟩ : ∃ w1, w.alloc (hdC cls lab hop sv shi slo dv dhi dlo X n c proto) = w1 := ⟨_, rfl⟩
  have hb1 : Below w.heap.size w w1 := hw1 ▸ (Below.refl _ _).alloc (Nat.le_refl _) _
  have hlt1 : w.heap.size < w1.heap.size := by rw [← hw1]; simp
  unfold hdC at hw1
  rw [hw1] at hbox
  have hcg := blk_cell hbox
  have hx1 := hx.on hb1
  have hpl : (pes es).length = n := by rw [pes_length]; exact hx.1
  replace hx := hide hx
  replace hx1 := hide hx1
  replace hb1 := hide hb1
  replace hbox := hide hbox
  replace hpl := hide hpl
  replace hr := hide hr
  unfold hdV
  go_enter Try.func17, Try.ntmps17
  go_wp2_with fail
  all_goals (try (go_ret; refine ⟨ret_bool (hr.out.symm.trans (rightHB_no ?_)).symm, hb1.out⟩; intro hh; first | omega | simp_all))
  refine (lawIs_any proto _).mono ?_
  rintro e w' ⟨rfl, rfl⟩
  clear hw1
  rcases hk : isB proto with _ | _
  case true =>
    replace hk := hide hk
    go_wp2_with fail
    go_ret
    refine ⟨ret_bool (hr.out.symm.trans (rightHB_no ?_)).symm, hb1.out⟩
    intro hh
    rw [hk.out] at hh
    simp at hh
  replace hk := hide hk
  by_cases h8 : n ≤ 8
  case neg =>
    have h8' : (8 : Int) < (n : Int) := by omega
    go_wp2_with fail
    go_ret
    refine ⟨ret_bool (hr.out.symm.trans (rightHB_no ?_)).symm, hb1.out⟩
    intro hh
    rw [hpl.out] at hh
    omega
  have h8' : ¬ (8 : Int) < (n : Int) := by omega
  have hryes : r = rightTo (pes es) n := hr.out.symm.trans ((rightHB_yes ⟨by omega, by omega, by omega, by omega, by omega, by omega, by assumption, by assumption, by omega, by omega, hk.out, by rw [hpl.out]; exact h8⟩).trans (by rw [hpl.out]))
  replace hryes := hide hryes
  go_wp2_with fail
  go_loopw [4] (fun i wr => ∃ j : Nat, j ≤ n ∧ i = .int .i64 (j : Int) ∧ rightTo (pes es) j = true ∧ Below w1.heap.size w1 wr) (fun i _ => n - (intOf i).toNat)
  case atStart => exact ⟨0, Nat.zero_le _, rfl, rfl, Below.refl _ _⟩
  case round =>
    obtain ⟨j, hj, rfl, hrt, hbr⟩ := hrel
    have hxr := hx1.out.on hbr
    have hgr := blk_below hbr hlt1 hbox.out
    have hltr := Nat.lt_of_lt_of_le hlt1 hbr.size
    clear hcg
    have hcg := blk_cell hgr
    replace hrt := hide hrt
    replace hbr := hide hbr
    replace hgr := hide hgr
    by_cases hlt : j < n
    · have hji : (j : Int) < (n : Int) := by omega
      have hj0 : (0 : Int) ≤ (j : Int) := by omega
      have hjc : (j : Int) ≤ (c : Int) := by omega
      obtain ⟨F, hF⟩ : ∃ F, beN (partB (es.take j)) 1 2 = F := ⟨_, rfl⟩
      obtain ⟨f, hf⟩ : ∃ f, F / 8 = f := ⟨_, rfl⟩
      obtain ⟨mo, hmo⟩ : ∃ mo, decide (F % 2 = 1) = mo := ⟨_, rfl⟩
      have hff : fragP ((pes es).take j) = f := by rw [← hf, ← hF, pes_frag, pes_take]
      have hxt := hxr.take (m := j) (by omega)
      obtain ⟨b, off, k, Ae, ce, xs, rfl, hbl, hge, hc0, hc1, hbx, hxc, hxm⟩ := hxr.at hlt
      have hpg := pes_get hge
      clear hge
      replace hxr := hide hxr
      replace hxt := hide hxt
      replace hF := hide hF
      replace hf := hide hf
      replace hmo := hide hmo
      replace hff := hide hff
      replace hc0 := hide hc0
      replace hc1 := hide hc1
      replace hbx := hide hbx
      replace hpg := hide hpg
      go_wp2_with fail
      refine (lawFrag_any _ j c (es.take j) _ hxt.out (by unfold maxLen; omega) F hF.out).mono ?_
      rintro e w2 ⟨rfl, hb2⟩
      rw [hf.out, hmo.out]
      have hg2 := blk_below hb2 hltr hgr.out
      have hd0 := (hb2.cell (p := ⟨b, off + j * 2, none⟩) hbl).trans hc0.out
      have hd1 := (hb2.cell (p := ⟨b, off + j * 2 + 1, none⟩) hbl).trans hc1.out
      have hx2 := hbx.out.on hb2
      have hB2 := hbr.out.trans (hb2.mono hbr.out.size)
      clear hcg hb2
      have hcg := blk_cell hg2
      replace hg2 := hide hg2
      replace hx2 := hide hx2
      replace hB2 := hide hB2
      go_wp2_with fail
      refine (lawRightExt_any k _ Ae xs.length ce xs _ hx2.out (by omega)).mono ?_
      rintro e w3 ⟨rfl, hb3⟩
      have hB3 := hB2.out.trans (hb3.mono hB2.out.size)
      clear hcg hb3
      replace hB3 := hide hB3
      rcases hre : rightExtB k (j : Int) xs with _ | _
      · have hstop := hryes.out.trans ((congrArg (rightTo (pes es)) hpl.out.symm).trans (rightTo_stop hpg.out (by rw [hre]; rfl)))
        replace hstop := hide hstop
        replace hre := hide hre
        go_wp2_with fail
        go_ret
        exact ⟨ret_bool hstop.out.symm, hb1.out.trans (hB3.out.mono hb1.out.size)⟩
      · by_cases hf0 : 0 < f
        · have hstop := hryes.out.trans ((congrArg (rightTo (pes es)) hpl.out.symm).trans (rightTo_stop hpg.out (by rw [hre, hff.out]; simp; omega)))
          have hf0' : (0 : Int) < (f : Int) := by omega
          replace hstop := hide hstop
          replace hre := hide hre
          go_wp2_with fail
          go_ret
          exact ⟨ret_bool hstop.out.symm, hb1.out.trans (hB3.out.mono hb1.out.size)⟩
        · have hnext : rightTo (pes es) (j + 1) = true := by rw [rightTo_succ _ _ _ hpg.out, hrt.out, hre, hff.out]; simp; omega
          have hf0' : ¬ (0 : Int) < (f : Int) := by omega
          replace hnext := hide hnext
          replace hre := hide hre
          go_wp2_with fail
          exact ⟨⟨j + 1, by omega, by go_num, hnext.out, hB3.out⟩, by simp [intOf]; omega⟩
    · have hji : ¬ (j : Int) < (n : Int) := by omega
      obtain rfl : j = n := by omega
      have hres : r = true := hryes.out.trans hrt.out
      replace hxr := hide hxr
      replace hres := hide hres
      go_wp2_with fail
      go_ret
      exact ⟨ret_bool hres.out.symm, hb1.out.trans (hbr.out.mono hb1.out.size)⟩
set_option maxRecDepth 4000 in
set_option maxHeartbeats 8000000 in
theorem right_any (cls lab hop : Int) (sv : Bool) (shi slo : Int) (dv : Bool) (dhi dlo : Int) (X : Option Addr) (n c : Nat) (proto : Int) (es : List Ext) (w : World) (hx : IsX w w.heap.size X n es) (hnc : n ≤ c) (hcm : c ≤ maxLen) :
    Calls Try.prog 75 #[hdV cls lab hop sv shi slo dv dhi dlo X n c proto] w fun e w' => e = .returned (.bool (rightHB cls lab hop sv dv proto (pes es))) ∧ Below w.heap.size w w' := by
  obtain ⟨r, hr⟩ : ∃ r, rightHB cls lab hop sv dv proto (pes es) = r := ⟨_, rfl⟩
  rw [hr]
  unfold maxLen at hcm
  have hbox := blk_new w 29 #[.int .i64 cls, .int .i64 lab, .int .i64 hop, .bool sv, .int .u64 shi, .int .u64 slo, .bool dv, .int .u64 dhi, .int .u64 dlo, .slice X n c, .int .i64 proto]
  obtain ⟨w1, hw1⟩ : ∃ w1, w.alloc (hdC cls lab hop sv shi slo dv dhi dlo X n c proto) = w1 := ⟨_, rfl⟩
  have hb1 : Below w.heap.size w w1 := hw1 ▸ (Below.refl _ _).alloc (Nat.le_refl _) _
  have hlt1 : w.heap.size < w1.heap.size := by rw [← hw1]; simp
  unfold hdC at hw1
  rw [hw1] at hbox
  have hcg := blk_cell hbox
  have hx1 := hx.on hb1
  have hpl : (pes es).length = n := by rw [pes_length]; exact hx.1
  replace hx := hide hx
  replace hx1 := hide hx1
  replace hb1 := hide hb1
  replace hbox := hide hbox
  replace hpl := hide hpl
  replace hr := hide hr
  unfold hdV
  go_enter Try.func75, Try.ntmps75
  go_wp2_with fail
  all_goals (try (go_ret; refine ⟨ret_bool (hr.out.symm.trans (rightHB_no ?_)).symm, hb1.out⟩; intro hh; first | omega | simp_all))
  refine (is_any proto _).mono ?_
  rintro e w' ⟨rfl, rfl⟩
  clear hw1
  rcases hk : isB proto with _ | _
  case true =>
    replace hk := hide hk
    go_wp2_with fail
    go_ret
    refine ⟨ret_bool (hr.out.symm.trans (rightHB_no ?_)).symm, hb1.out⟩
    intro hh
    rw [hk.out] at hh
    simp at hh
  replace hk := hide hk
  by_cases h8 : n ≤ 8
  case neg =>
    have h8' : (8 : Int) < (n : Int) := by omega
    go_wp2_with fail
    go_ret
    refine ⟨ret_bool (hr.out.symm.trans (rightHB_no ?_)).symm, hb1.out⟩
    intro hh
    rw [hpl.out] at hh
    omega
  have h8' : ¬ (8 : Int) < (n : Int) := by omega
  have hryes : r = rightTo (pes es) n := hr.out.symm.trans ((rightHB_yes ⟨by omega, by omega, by omega, by omega, by omega, by omega, by assumption, by assumption, by omega, by omega, hk.out, by rw [hpl.out]; exact h8⟩).trans (by rw [hpl.out]))
  replace hryes := hide hryes
  go_wp2_with fail
  go_loopw [70] (fun i wr => ∃ j : Nat, j ≤ n ∧ i = .int .i64 (j : Int) ∧ rightTo (pes es) j = true ∧ Below w1.heap.size w1 wr) (fun i _ => n - (intOf i).toNat)
  case atStart => exact ⟨0, Nat.zero_le _, rfl, rfl, Below.refl _ _⟩
  case round =>
    obtain ⟨j, hj, rfl, hrt, hbr⟩ := hrel
    have hxr := hx1.out.on hbr
    have hgr := blk_below hbr hlt1 hbox.out
    have hltr := Nat.lt_of_lt_of_le hlt1 hbr.size
    clear hcg
    have hcg := blk_cell hgr
    replace hrt := hide hrt
    replace hbr := hide hbr
    replace hgr := hide hgr
    by_cases hlt : j < n
    · have hji : (j : Int) < (n : Int) := by omega
      have hj0 : (0 : Int) ≤ (j : Int) := by omega
      have hjc : (j : Int) ≤ (c : Int) := by omega
      obtain ⟨f, hf⟩ : ∃ f, beN (partB (es.take j)) 1 2 / 8 = f := ⟨_, rfl⟩
      have hff : fragP ((pes es).take j) = f := by rw [← hf, pes_frag, pes_take]
      have hxt := hxr.take (m := j) (by omega)
      obtain ⟨b, off, k, Ae, ce, xs, rfl, hbl, hge, hc0, hc1, hbx, hxc, hxm⟩ := hxr.at hlt
      have hpg := pes_get hge
      have hxt3 := (hxt.alloc (.cells #[.int .i64 k, .slice Ae xs.length ce] 73)).alloc (hdC 0 0 0 false 0 0 false 0 0 (some ⟨b, off, none⟩) j c 0)
      have hbx3 := (hbx.alloc (.cells #[.int .i64 k, .slice Ae xs.length ce] 73)).alloc (hdC 0 0 0 false 0 0 false 0 0 (some ⟨b, off, none⟩) j c 0)
      have hb3 : Below wr.heap.size wr ((wr.alloc (.cells #[.int .i64 k, .slice Ae xs.length ce] 73)).alloc (hdC 0 0 0 false 0 0 false 0 0 (some ⟨b, off, none⟩) j c 0)) := ((Below.refl _ _).alloc (Nat.le_refl _) _).alloc (by simp) _
      have hg3 : ((wr.alloc (.cells #[.int .i64 k, .slice Ae xs.length ce] 73)).alloc (hdC 0 0 0 false 0 0 false 0 0 (some ⟨b, off, none⟩) j c 0)).heap[wr.heap.size + 1]? = some (hdC 0 0 0 false 0 0 false 0 0 (some ⟨b, off, none⟩) j c 0) := by simpa using blk_new (wr.alloc (.cells #[.int .i64 k, .slice Ae xs.length ce] 73)) 29 #[.int .i64 0, .int .i64 0, .int .i64 0, .bool false, .int .u64 0, .int .u64 0, .bool false, .int .u64 0, .int .u64 0, .slice (some ⟨b, off, none⟩) j c, .int .i64 0]
      unfold hdC at hxt3 hbx3 hb3 hg3
      clear hge hbx hxt
      replace hxr := hide hxr
      replace hxt3 := hide hxt3
      replace hf := hide hf
      replace hff := hide hff
      replace hbx3 := hide hbx3
      replace hpg := hide hpg
      replace hb3 := hide hb3
      replace hg3 := hide hg3
      go_wp2_with fail
      refine (rightExt_any k _ Ae xs.length ce xs _ hbx3.out (by omega)).mono ?_
      rintro e w2 ⟨rfl, hb2⟩
      have hz2 := hb2.size
      simp only [World.size_alloc] at hz2
      have hg2 := blk_below hb2 (by simp) hg3.out
      have hB2 := hbr.out.trans ((hb3.out.trans (hb2.mono (by simp; omega))).mono hbr.out.size)
      have hxt2 := hxt3.out.on hb2
      clear hcg hb2
      have hcg := blk_cell hg2
      replace hg2 := hide hg2
      replace hB2 := hide hB2
      replace hxt2 := hide hxt2
      rcases hre : rightExtB k (j : Int) xs with _ | _
      · have hstop := hryes.out.trans ((congrArg (rightTo (pes es)) hpl.out.symm).trans (rightTo_stop hpg.out (by rw [hre]; rfl)))
        replace hstop := hide hstop
        replace hre := hide hre
        go_wp2_with fail
        go_ret
        exact ⟨ret_bool hstop.out.symm, hb1.out.trans (hB2.out.mono hb1.out.size)⟩
      · replace hre := hide hre
        go_wp2_with fail
        refine (frag_any 0 0 0 false 0 0 false 0 0 _ j c 0 (es.take j) _ hxt2.out (by unfold maxLen; omega)).mono ?_
        rintro e w3 ⟨rfl, hb3'⟩
        rw [hf.out]
        have hB3 := hB2.out.trans (hb3'.mono hB2.out.size)
        clear hcg hb3'
        replace hB3 := hide hB3
        by_cases hf0 : 0 < f
        · have hstop := hryes.out.trans ((congrArg (rightTo (pes es)) hpl.out.symm).trans (rightTo_stop hpg.out (by rw [hre.out, hff.out]; simp; omega)))
          have hf0' : (0 : Int) < (f : Int) := by omega
          replace hstop := hide hstop
          go_wp2_with fail
          go_ret
          exact ⟨ret_bool hstop.out.symm, hb1.out.trans (hB3.out.mono hb1.out.size)⟩
        · have hnext : rightTo (pes es) (j + 1) = true := by rw [rightTo_succ _ _ _ hpg.out, hrt.out, hre.out, hff.out]; simp; omega
          have hf0' : ¬ (0 : Int) < (f : Int) := by omega
          replace hnext := hide hnext
          go_wp2_with fail
          exact ⟨⟨j + 1, by omega, by go_num, hnext.out, hB3.out⟩, by simp [intOf]; omega⟩
    · have hji : ¬ (j : Int) < (n : Int) := by omega
      obtain rfl : j = n := by omega
      have hres : r = true := hryes.out.trans hrt.out
      replace hxr := hide hxr
      replace hres := hide hres
      go_wp2_with fail
      go_ret
      exact ⟨ret_bool hres.out.symm, hb1.out.trans (hbr.out.mono hb1.out.size)⟩
end Six
end Go.Proofs.Ytdmgbngdpjcliaa
