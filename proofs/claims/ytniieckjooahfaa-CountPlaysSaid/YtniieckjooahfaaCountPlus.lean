/- count's sums added, by contract. Condition: sums of 29 numbers. -/
import Derived.Test.YtniieckjooahfaaLimit
import Derived.Test.YtniieckjooahfaaBits
import Derived.Test.YtniieckjooahfaaRegionW
import Derived.RegionTactic
import Derived.ChangeAlike
import Derived.BigRegion
import Derived.Deep.MidRow
import Derived.Deep.Cut
namespace Go.Proofs.Ytniieckjooahfaa
open Go.RowKit Go.ChangeShapes Go.WideShapes Go.ChangeAt Go.Deep
namespace Count
/-- A sum's cells. -/
def sumA (l : List Int) : Array Value := (l.map (Value.int .i64)).toArray
theorem sumA_size (l : List Int) : (sumA l).size = l.length := by simp [sumA]
theorem sumA_get (l : List Int) (i : Nat) (h : i < l.length) : (sumA l)[i]? = some (.int .i64 (l.getD i 0)) := by
  simp [sumA, List.getD, List.getElem?_eq_getElem h]
theorem sumA_one (l : List Int) : (sumA l).all (·.oneCell') = true := by
  refine Array.all_eq_true_iff_forall_mem.2 fun v hv => ?_
  obtain ⟨x, _, rfl⟩ := List.mem_map.1 (by simpa [sumA] using hv : v ∈ l.map (Value.int .i64))
  rfl
theorem sumA_set (l : List Int) (i : Nat) (v : Int) : (sumA l).setIfInBounds i (.int .i64 v) = sumA (l.set i v) := by
  unfold sumA
  rw [List.setIfInBounds_toArray, List.map_set]
theorem sumA_range {w : World} {g : Nat} {l : List Int} {t : TypeId} (h : w.heap[g]? = some (.cells (sumA l) t (0, 0))) : w.rangeAt g 0 (l.map (Value.int .i64)) := by
  intro j v hv
  rw [Nat.zero_add, blk_cell h j]
  simpa [sumA] using hv
theorem below_cells {B g : Nat} (hg : B ≤ g) {a : World} : ∀ (vs : List Value) (o : Nat) {w : World}, Below B a w → Below B a (w.setCells g o vs)
  | [], _, _, h => h
  | v :: vs, o, _, h => below_cells hg vs (o + 1) (h.setCell (p := ⟨g, o, none⟩) hg v)
theorem blk_cells {g : Nat} {t : TypeId} (post : List Value) : ∀ (vs pre old : List Value) {w : World}, w.heap[g]? = some (.cells (pre ++ (old ++ post)).toArray t (0, 0)) → old.length = vs.length → (w.setCells g pre.length vs).heap[g]? = some (.cells (pre ++ (vs ++ post)).toArray t (0, 0))
  | [], pre, old, w, h, hl => by
    obtain rfl : old = [] := List.length_eq_zero_iff.1 hl
    exact h
  | v :: vs, pre, [], w, h, hl => by simp at hl
  | v :: vs, pre, x :: old, w, h, hl => by
    have h1 := blk_set h pre.length v
    have h2 : (pre ++ (x :: old ++ post)).toArray.setIfInBounds pre.length v = ((pre ++ [v]) ++ (old ++ post)).toArray := by
      rw [List.setIfInBounds_toArray, List.set_append_right _ _ (Nat.le_refl _), Nat.sub_self]
      simp
    rw [h2] at h1
    have h3 := blk_cells post vs (pre ++ [v]) old h1 (by simpa using hl)
    rw [show (pre ++ [v]).length = pre.length + 1 from by simp] at h3
    rw [World.setCells, h3]
    simp
theorem sumA_store {w : World} {g : Nat} {t : TypeId} {l l' : List Int} (h : w.heap[g]? = some (.cells (sumA l) t (0, 0))) (hl : l.length = l'.length) : (w.setCells g 0 (sumA l').toList).heap[g]? = some (.cells (sumA l') t (0, 0)) := by
  have h1 := blk_cells (g := g) (t := t) [] (l'.map (Value.int .i64)) [] (l.map (Value.int .i64)) (w := w) (by simpa [sumA] using h) (by simpa using hl)
  simpa [sumA] using h1
def z29 : List Int := List.replicate 29 0
/-- Two sums added. -/
def plusL (a b : List Int) : List Int := List.zipWith (fun x y => IntKind.i64.wrap (x + y)) a b
/-- .. the first k of them. -/
def mixL (a b : List Int) (k : Nat) : List Int := (plusL a b).take k ++ a.drop k
theorem mix_len (a b : List Int) (k : Nat) (ha : a.length = 29) (hb : b.length = 29) (hk : k ≤ 29) : (mixL a b k).length = 29 := by
  simp [mixL, plusL, ha, hb]; omega
theorem mix_get (a b : List Int) (k : Nat) (ha : a.length = 29) (hb : b.length = 29) (hk : k < 29) : (mixL a b k).getD k 0 = a.getD k 0 := by
  have h1 : ((plusL a b).take k).length = k := by simp [plusL, ha, hb]; omega
  unfold mixL List.getD
  rw [List.getElem?_append_right (by omega), h1, Nat.sub_self, List.getElem?_drop]
  rfl
theorem mix_next (a b : List Int) (k : Nat) (ha : a.length = 29) (hb : b.length = 29) (hk : k < 29) : (mixL a b k).set k (IntKind.i64.wrap (a.getD k 0 + b.getD k 0)) = mixL a b (k + 1) := by
  have h1 : ((plusL a b).take k).length = k := by simp [plusL, ha, hb]; omega
  have h2 : a[k]? = some a[k] := List.getElem?_eq_getElem (by omega)
  have h3 : b[k]? = some b[k] := List.getElem?_eq_getElem (by omega)
  have h4 : (plusL a b)[k]? = some (IntKind.i64.wrap (a.getD k 0 + b.getD k 0)) := by
    unfold plusL
    rw [List.getElem?_zipWith, h2, h3]
    simp [List.getD, h2, h3]
  unfold mixL
  rw [List.set_append_right _ _ (by omega), h1, Nat.sub_self, List.take_add_one, h4, List.drop_eq_getElem_cons (by omega : k < a.length)]
  simp only [List.set_cons_zero, Option.toList_some, List.append_assoc, List.cons_append, List.nil_append]
theorem mix_all (a b : List Int) (ha : a.length = 29) (hb : b.length = 29) : mixL a b 29 = plusL a b := by
  unfold mixL
  rw [List.take_of_length_le (by simp [plusL, ha, hb]), List.drop_of_length_le (by omega), List.append_nil]
theorem mix_step {w : World} {g k : Nat} {t : TypeId} {a b : List Int} (ha : a.length = 29) (hb : b.length = 29) (hk : k < 29) (h : w.heap[g]? = some (.cells (sumA (mixL a b k)) t (0, 0))) (v : Int) (hv : v = IntKind.i64.wrap (a.getD k 0 + b.getD k 0)) :
    ∃ w', w.setCell ⟨g, k, none⟩ (.int .i64 v) = w' ∧ w'.heap[g]? = some (.cells (sumA (mixL a b (k + 1))) t (0, 0)) ∧ w.grownBy w' (some g) := by
  refine ⟨_, rfl, ?_, grown_set (grown_refl _ _) rfl _⟩
  rw [blk_set h, sumA_set, hv, mix_next a b k ha hb hk]
theorem keptS_grown {S g : Nat} {w w' : World} (h : w.grownBy w' (some g)) (hS : S ≤ w.heap.size) : KeptS S (fun k => k = g) w w' :=
  ⟨h.os, h.tape, h.output, h.size, fun k hk hne => h.block k (by omega) (by simpa using hne)⟩
set_option maxRecDepth 20000 in
set_option maxHeartbeats 8000000 in
theorem plus_any (a b : List Int) (ha : a.length = 29) (hb : b.length = 29) (w : World) :
    Calls Try.prog 35 #[.agg (sumA a), .agg (sumA b)] w fun e w' => e = .returned (.agg (sumA (plusL a b))) ∧ Below w.heap.size w w' := by
  go_enter Try.func35, Try.ntmps35
  go_wp2_with fail
  have hga : ((w.alloc (.cells (sumA a) 59)).alloc (.cells (sumA b) 59)).heap[w.heap.size]? = some (.cells (sumA (mixL a b 0)) 59 (0, 0)) := by
    rw [show mixL a b 0 = a from by simp [mixL]]
    exact blk_old _ (by simp) (blk_new _ _ _)
  have hgb : ((w.alloc (.cells (sumA a) 59)).alloc (.cells (sumA b) 59)).heap[w.heap.size + 1]? = some (.cells (sumA b) 59 (0, 0)) := by
    have := blk_new (w.alloc (.cells (sumA a) 59)) 59 (sumA b)
    simpa using this
  have hbw : Below w.heap.size w ((w.alloc (.cells (sumA a) 59)).alloc (.cells (sumA b) 59)) := ((Below.refl _ _).alloc (Nat.le_refl _) _).alloc (by simp) _
  have hsz : ((w.alloc (.cells (sumA a) 59)).alloc (.cells (sumA b) 59)).heap.size = w.heap.size + 2 := by simp
  generalize ((w.alloc (.cells (sumA a) 59)).alloc (.cells (sumA b) 59)) = w2 at hga hgb hbw hsz ⊢
  have hga' := blk_old (.cells (Array.replicate 29 (.int .i64 0)) 59) (by omega) hga
  have hgb' := blk_old (.cells (Array.replicate 29 (.int .i64 0)) 59) (by omega) hgb
  have hgr := blk_new w2 59 (Array.replicate 29 (.int .i64 0))
  have hbw' := hbw.alloc (by omega) (.cells (Array.replicate 29 (.int .i64 0)) 59)
  have hsz' : (w2.alloc (.cells (Array.replicate 29 (.int .i64 0)) 59)).heap.size = w.heap.size + 3 := by simp [hsz]
  change Code.wp _ _ _ _ (w2.alloc (.cells (Array.replicate 29 (.int .i64 0)) 59))
  generalize w2.alloc (.cells (Array.replicate 29 (.int .i64 0)) 59) = wx at hga' hgb' hgr hbw' hsz' ⊢
  rw [hsz] at hgr
  clear hga hgb hbw hsz
  have hl := fun k (h : k ≤ 29) => mix_len a b k ha hb h
  obtain ⟨x0, hx0⟩ : ∃ x, a.getD 0 0 = x := ⟨_, rfl⟩
  obtain ⟨x1, hx1⟩ : ∃ x, a.getD 1 0 = x := ⟨_, rfl⟩
  obtain ⟨x2, hx2⟩ : ∃ x, a.getD 2 0 = x := ⟨_, rfl⟩
  obtain ⟨y0, hy0⟩ : ∃ x, b.getD 0 0 = x := ⟨_, rfl⟩
  obtain ⟨y1, hy1⟩ : ∃ x, b.getD 1 0 = x := ⟨_, rfl⟩
  obtain ⟨y2, hy2⟩ : ∃ x, b.getD 2 0 = x := ⟨_, rfl⟩
  replace hx0 := hide hx0
  replace hx1 := hide hx1
  replace hx2 := hide hx2
  replace hy0 := hide hy0
  replace hy1 := hide hy1
  replace hy2 := hide hy2
  refine wp_region_W [16, 18, 20] wx.heap.size (fun k => k = w.heap.size) (by as_aux_lemma => kernel_rfl) ?_
  intro wd hbd
  have hzd := hbd.size
  have hgd := blk_below hbd (by omega) hga'
  have hgbd := blk_below hbd (by omega) hgb'
  have hgrd := blk_below hbd (by omega) hgr
  have hBd := hbw'.trans (hbd.mono (by omega))
  obtain ⟨w16, e16, hg16, gr16⟩ := mix_step ha hb (by omega : 0 < 29) hgd (IntKind.i64.wrap (x0 + y0)) (by rw [hx0.out, hy0.out])
  obtain ⟨w18, e18, hg18, gr18⟩ := mix_step ha hb (by omega : 1 < 29) hg16 (IntKind.i64.wrap (x1 + y1)) (by rw [hx1.out, hy1.out])
  obtain ⟨w20, e20, hg20, gr20⟩ := mix_step ha hb (by omega : 2 < 29) hg18 (IntKind.i64.wrap (x2 + y2)) (by rw [hx2.out, hy2.out])
  have hA := fun (l : KeptSW wx.heap.size (fun _ => False) wd) (o : Nat) (ho : o < 29) => (blk_cell (l.blk hgd (by omega) id) o).trans (sumA_get _ _ (by rw [hl 0 (by omega)]; exact ho))
  have hA0 := fun l => hA l 0 (by omega)
  have hA1 := fun l => hA l 1 (by omega)
  have hA2 := fun l => hA l 2 (by omega)
  rw [show (mixL a b 0).getD 0 0 = x0 from (mix_get a b 0 ha hb (by omega)).trans hx0.out] at hA0
  rw [show (mixL a b 0).getD 1 0 = x1 from by rw [show mixL a b 0 = a from by simp [mixL]]; exact hx1.out] at hA1
  rw [show (mixL a b 0).getD 2 0 = x2 from by rw [show mixL a b 0 = a from by simp [mixL]]; exact hx2.out] at hA2
  have hB := fun (l : KeptSW wx.heap.size (fun k => k = w.heap.size) wd) (o : Nat) (ho : o < 29) => (blk_cell (l.blk hgbd (by omega) (by omega)) o).trans (sumA_get _ _ (by rw [hb]; exact ho))
  have hB0 := fun l => (hB l 0 (by omega)).trans (by rw [hy0.out])
  have hB1 := fun l => (hB l 1 (by omega)).trans (by rw [hy1.out])
  have hB2 := fun l => (hB l 2 (by omega)).trans (by rw [hy2.out])
  have hBF := fun (l : KeptSW wx.heap.size (fun _ => False) wd) => (blk_cell (l.blk hgbd (by omega) id) 0).trans (sumA_get _ _ (by omega))
  rw [hy0.out] at hBF
  clear hA hB
  have c16 := (blk_cell hgd 0).trans (sumA_get _ _ (by rw [hl _ (by omega)]; omega))
  have c18 := (blk_cell hg16 1).trans (sumA_get _ _ (by rw [hl _ (by omega)]; omega))
  have c20 := (blk_cell hg18 2).trans (sumA_get _ _ (by rw [hl _ (by omega)]; omega))
  have f16 := blk_free hgd 0
  have f18 := blk_free hg16 1
  have f20 := blk_free hg18 2
  replace hg16 := hide hg16
  replace hg18 := hide hg18
  replace hg20 := hide hg20
  replace gr16 := hide gr16
  replace gr18 := hide gr18
  replace gr20 := hide gr20
  replace hgd := hide hgd
  replace hgbd := hide hgbd
  replace hgrd := hide hgrd
  replace hBd := hide hBd
  replace hga' := hide hga'
  replace hgb' := hide hgb'
  replace hgr := hide hgr
  replace hbw' := hide hbw'
  replace hbd := hide hbd
  refine wpWH_seg [16, 18, 20] wx.heap.size (fun k => k = w.heap.size) 0 7 (fuel := 14) (by as_aux_lemma => kernel_rfl) (fun d _ _ _ _ h => by cases d <;> exact h) (by as_aux_lemma => kernel_rfl) (by as_aux_lemma => kernel_rfl) (by as_aux_lemma => kernel_rfl) ?_
  simp only [List.drop_zero, List.take_succ_cons, List.take_zero]
  iterate 7 (refine wpQS_step (fun K hK => ?_); go_simp; refine hK _ ?_; clear hK K)
  refine wpQF_nil ?_
  refine wpWS_seg [16, 18, 20] wx.heap.size (fun k => k = w.heap.size) 7 3 (fuel := 11) (by as_aux_lemma => kernel_rfl) (fun d _ _ _ _ h => by cases d <;> exact h) (by as_aux_lemma => kernel_rfl) (by as_aux_lemma => kernel_rfl) ?_
  simp only [List.drop_succ_cons, List.drop_zero, List.take_succ_cons, List.take_zero]
  iterate 3 (refine wpQS_step (fun K hK => ?_); go_simp; refine hK _ ?_; clear hK K)
  refine wpQF_nil ?_
  refine wpWH_seg [16, 18, 20] wx.heap.size (fun k => k = w.heap.size) 10 2 (fuel := 9) (by as_aux_lemma => kernel_rfl) (fun d _ _ _ _ h => by cases d <;> exact h) (by as_aux_lemma => kernel_rfl) (by as_aux_lemma => kernel_rfl) (by as_aux_lemma => kernel_rfl) ?_
  simp only [List.drop_succ_cons, List.drop_zero, List.take_succ_cons, List.take_zero]
  iterate 2 (refine wpQS_step (fun K hK => ?_); go_simp; refine hK _ ?_; clear hK K)
  refine wpQF_nil ?_
  refine wpWS_seg [16, 18, 20] wx.heap.size (fun k => k = w.heap.size) 12 4 (fuel := 5) (by as_aux_lemma => kernel_rfl) (fun d _ _ _ _ h => by cases d <;> exact h) (by as_aux_lemma => kernel_rfl) (by as_aux_lemma => kernel_rfl) ?_
  simp only [List.drop_succ_cons, List.drop_zero, List.take_succ_cons, List.take_zero]
  iterate 4 (refine wpQS_step (fun K hK => ?_); go_simp; refine hK _ ?_; clear hK K)
  refine wpQF_nil ?_
  clear hA0 hA1 hA2 hB0 hB1 hB2 hBF
  refine wpW_step 16 rfl (by as_aux_lemma => kernel_rfl) (fun K hK => ?_)
  go_simp
  refine hK _ _ (relS_of rfl (keptS_grown gr16.out hzd)) ?_
  clear hK K
  refine wpW_step 17 rfl (by as_aux_lemma => kernel_rfl) (fun K hK => ?_)
  go_simp
  refine hK _ _ (relS_refl _ _ _ _ _) ?_
  clear hK K
  refine wpW_step 18 rfl (by as_aux_lemma => kernel_rfl) (fun K hK => ?_)
  go_simp
  refine hK _ _ (relS_of rfl (keptS_grown gr18.out (Nat.le_trans hzd gr16.out.size))) ?_
  clear hK K
  refine wpW_step 19 rfl (by as_aux_lemma => kernel_rfl) (fun K hK => ?_)
  go_simp
  refine hK _ _ (relS_refl _ _ _ _ _) ?_
  clear hK K
  refine wpW_step 20 rfl (by as_aux_lemma => kernel_rfl) (fun K hK => ?_)
  go_simp
  refine hK _ _ (relS_of rfl (keptS_grown gr20.out (Nat.le_trans hzd (Nat.le_trans gr16.out.size gr18.out.size)))) ?_
  clear hK K
  refine wpW_done (by as_aux_lemma => kernel_rfl) ?_ _
  clear e16 e18 e20 c16 c18 c20 f16 f18 f20
  have hz20 : wd.heap.size ≤ w20.heap.size := Nat.le_trans gr16.out.size (Nat.le_trans gr18.out.size gr20.out.size)
  have hgb20 : w20.heap[w.heap.size + 1]? = some (.cells (sumA b) 59 (0, 0)) := grown_other gr20.out (by have := gr16.out.size; have := gr18.out.size; omega) (by omega) (grown_other gr18.out (by have := gr16.out.size; omega) (by omega) (grown_other gr16.out (by omega) (by omega) hgbd.out))
  have hgr20 : w20.heap[w.heap.size + 2]? = some (.cells (Array.replicate 29 (.int .i64 0)) 59 (0, 0)) := grown_other gr20.out (by have := gr16.out.size; have := gr18.out.size; omega) (by omega) (grown_other gr18.out (by have := gr16.out.size; omega) (by omega) (grown_other gr16.out (by omega) (by omega) hgrd.out))
  have hB20 : Below w.heap.size w w20 := ((hBd.out.trans (below_grown gr16.out (by omega) (Nat.le_refl _))).trans (below_grown gr18.out (by have := gr16.out.size; omega) (Nat.le_refl _))).trans (below_grown gr20.out (by have := gr16.out.size; have := gr18.out.size; omega) (Nat.le_refl _))
  have hg20' := hg20.out
  clear hg20 hg18 hg16 gr16 gr18 gr20 hgd hgbd hgrd hBd hga' hgb' hgr hbw' hbd hx0 hx1 hx2 hy0 hy1 hy2
  replace hgb20 := hide hgb20
  replace hgr20 := hide hgr20
  replace hB20 := hide hB20
  replace hg20' := hide hg20'
  go_wp2_with fail
  go_loopw [24] (fun i wr => ∃ k : Nat, k ≤ 26 ∧ i = .int .i64 (k : Int) ∧ wr.heap[w.heap.size]? = some (.cells (sumA (mixL a b (3 + k))) 59 (0, 0)) ∧ wr.heap[w.heap.size + 1]? = some (.cells (sumA b) 59 (0, 0)) ∧ wr.heap[w.heap.size + 2]? = some (.cells (Array.replicate 29 (.int .i64 0)) 59 (0, 0)) ∧ Below w.heap.size w wr ∧ w.heap.size + 3 ≤ wr.heap.size) (fun i _ => 26 - (intOf i).toNat)
  case atStart => exact ⟨0, by omega, rfl, hg20'.out, hgb20.out, hgr20.out, hB20.out, by omega⟩
  case round =>
    obtain ⟨k, hk, rfl, hg, hgb, hgr, hB, hz⟩ := hrel
    by_cases hlt : k < 26
    · obtain ⟨x, hx⟩ : ∃ x, a.getD (3 + k) 0 = x := ⟨_, rfl⟩
      obtain ⟨y, hy⟩ : ∃ y, b.getD (3 + k) 0 = y := ⟨_, rfl⟩
      have hji : (k : Int) < 26 := by omega
      have hj0 : (0 : Int) ≤ (k : Int) := by omega
      replace hg := hide hg
      replace hgb := hide hgb
      replace hgr := hide hgr
      replace hB := hide hB
      replace hx := hide hx
      replace hy := hide hy
      go_wp2_with fail
      refine wp_region_W [11] wr.heap.size (fun k => k = w.heap.size) (by as_aux_lemma => kernel_rfl) ?_
      intro wd hbd
      have hzd := hbd.size
      have hgd := blk_below hbd (by omega) hg.out
      have hgbd := blk_below hbd (by omega) hgb.out
      have hgrd := blk_below hbd (by omega) hgr.out
      have hBd := hB.out.trans (hbd.mono (by omega))
      obtain ⟨w11, e11, hg11, gr11⟩ := mix_step ha hb (by omega : 3 + k < 29) hgd (IntKind.i64.wrap (x + y)) (by rw [hx.out, hy.out])
      have hA := fun (l : KeptSW wr.heap.size (fun _ => False) wd) => (blk_cell (l.blk hgd (by omega) id) (3 + k)).trans (sumA_get _ _ (by rw [hl _ (by omega)]; omega))
      rw [mix_get a b _ ha hb (by omega), hx.out] at hA
      have hB' := fun (l : KeptSW wr.heap.size (fun _ => False) wd) => (blk_cell (l.blk hgbd (by omega) id) (3 + k)).trans (sumA_get _ _ (by omega))
      rw [hy.out] at hB'
      have c11 := (blk_cell hgd (3 + k)).trans (sumA_get _ _ (by rw [hl _ (by omega)]; omega))
      have f11 := blk_free hgd (3 + k)
      replace hg11 := hide hg11
      replace gr11 := hide gr11
      replace hgd := hide hgd
      replace hgbd := hide hgbd
      replace hgrd := hide hgrd
      replace hBd := hide hBd
      replace hbd := hide hbd
      refine wpWH_seg [11] wr.heap.size (fun k => k = w.heap.size) 0 9 (fuel := 3) (by as_aux_lemma => kernel_rfl) (fun d _ _ _ _ h => by cases d <;> exact h) (by as_aux_lemma => kernel_rfl) (by as_aux_lemma => kernel_rfl) (by as_aux_lemma => kernel_rfl) ?_
      simp only [List.drop_zero, List.take_succ_cons, List.take_zero]
      iterate 9 (refine wpQS_step (fun K hK => ?_); go_simp; refine hK _ ?_; clear hK K)
      refine wpQF_nil ?_
      refine wpWS_seg [11] wr.heap.size (fun k => k = w.heap.size) 9 2 (fuel := 1) (by as_aux_lemma => kernel_rfl) (fun d _ _ _ _ h => by cases d <;> exact h) (by as_aux_lemma => kernel_rfl) (by as_aux_lemma => kernel_rfl) ?_
      simp only [List.drop_succ_cons, List.drop_zero, List.take_succ_cons, List.take_zero]
      iterate 2 (refine wpQS_step (fun K hK => ?_); go_simp; refine hK _ ?_; clear hK K)
      refine wpQF_nil ?_
      refine wpW_step 11 rfl (by as_aux_lemma => kernel_rfl) (fun K hK => ?_)
      go_simp
      refine hK _ _ (relS_of rfl (keptS_grown gr11.out hzd)) ?_
      clear hK K hA hB'
      refine wpW_done (by as_aux_lemma => kernel_rfl) ?_ _
      clear e11 c11 f11
      have hB11 : Below w.heap.size w w11 := hBd.out.trans (below_grown gr11.out (by omega) (Nat.le_refl _))
      have hz11 := gr11.out.size
      have hgb11 := grown_other gr11.out (by omega) (by omega) hgbd.out
      have hgr11 := grown_other gr11.out (by omega) (by omega) hgrd.out
      have s1 : IntKind.i64.wrap ((k : Int) + 1) = ((k + 1 : Nat) : Int) := by rw [wraps62 _ (by omega) (by omega)]; omega
      clear hg hgb hgr hB hx hy hgd hgbd hgrd hBd hbd gr11
      replace hB11 := hide hB11
      replace hgb11 := hide hgb11
      replace hgr11 := hide hgr11
      go_wp2_with fail
      exact ⟨⟨k + 1, by omega, by go_num, hg11.out, hgb11.out, hgr11.out, hB11.out, by omega⟩, by simp [intOf]; omega⟩
    · have hji : ¬ (k : Int) < 26 := by omega
      obtain rfl : k = 26 := by omega
      have hgl : wr.heap[w.heap.size]? = some (.cells (sumA (plusL a b)) 59 (0, 0)) := by rw [hg, ← mix_all a b ha hb]
      have hrg := sumA_range hgl
      have hlen : (plusL a b).length = 29 := by simp [plusL, ha, hb]
      have htr : wr.there (w.heap.size + 1 + 1) 0 29 := fun j hj => by
        rw [Nat.zero_add, blk_cell hgr, blk_free hgr]
        simp [hj]
      replace hg := hide hg
      replace hgb := hide hgb
      replace hgr := hide hgr
      replace hB := hide hB
      replace hgl := hide hgl
      replace hrg := hide hrg
      replace htr := hide htr
      go_upto_region 7 with fail
      apply wp_region_lit
      refine wpList_load_mid rfl 59 (.tmp 2) rfl w.heap.size 0 rfl ((plusL a b).map (Value.int .i64)) _ hrg.out Try.underlying59 rfl (by rw [List.length_map, hlen]; rfl) ?_
      refine wpList_store_mid rfl 59 (.tmp 4) (.tmp 39) rfl (w.heap.size + 1 + 1) 0 (sumA (plusL a b)) rfl rfl (by rw [sumA_size, hlen]; exact htr.out) (by rw [sumA_size, hlen]; rfl) (sumA_one _) ?_
      refine wpList_nil ?_
      have hgz : (wr.setCells (w.heap.size + 1 + 1) 0 (sumA (plusL a b)).toList).heap[w.heap.size + 1 + 1]? = some (.cells (sumA (plusL a b)) 59 (0, 0)) := sumA_store (l := z29) hgr.out (by rw [hlen]; rfl)
      have hBz := below_cells (show w.heap.size ≤ w.heap.size + 1 + 1 by omega) (sumA (plusL a b)).toList 0 hB.out
      obtain ⟨wz, hwz⟩ : ∃ x, wr.setCells (w.heap.size + 1 + 1) 0 (sumA (plusL a b)).toList = x := ⟨_, rfl⟩
      rw [hwz] at hgz hBz ⊢
      have hld : (loadVar 59 ⟨w.heap.size + 1 + 1, 0, none⟩).run Try.prog wz = .ok (.agg (sumA (plusL a b))) wz := run_loadVar_mid wz (w.heap.size + 1 + 1) 0 59 ((plusL a b).map (Value.int .i64)) _ (sumA_range hgz) Try.underlying59 rfl (by rw [List.length_map, hlen]; rfl)
      clear hwz
      replace hld := hide hld
      replace hgz := hide hgz
      replace hBz := hide hBz
      go_simp
      go_wp2_with fail
      trace_state
      have q1 := hld.out
      refine bodyPost_ret (v := .agg (sumA (plusL a b))) (by simp [results, Try.results35, asAddr, q1]) rfl ⟨rfl, hBz.out⟩
end Count
end Go.Proofs.Ytniieckjooahfaa
