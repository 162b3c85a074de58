/- CountSums, walked. Condition: sums of 29 numbers. -/
import Derived.Test.YtniieckjooahfaaCountNil
import Derived.ChangeKeysEq
import Derived.Test.YtniieckjooahfaaCountLimitsWalk
namespace Go.Proofs.Ytniieckjooahfaa
open Go.RowKit Go.ChangeShapes Go.WideShapes Go.ChangeAt Go.Deep
namespace Count
theorem plus_get (a b : List Int) (k : Nat) (ha : a.length = 29) (hb : b.length = 29) (hk : k < 29) : (plusL a b).getD k 0 = IntKind.i64.wrap (a.getD k 0 + b.getD k 0) := by
  have h2 : a[k]? = some a[k] := List.getElem?_eq_getElem (by omega)
  have h3 : b[k]? = some b[k] := List.getElem?_eq_getElem (by omega)
  unfold plusL List.getD
  rw [List.getElem?_zipWith, h2, h3]
  rfl
theorem plus_len (a b : List Int) (ha : a.length = 29) (hb : b.length = 29) : (plusL a b).length = 29 := by simp [plusL, ha, hb]
theorem sumA_cell {w : World} {g : Nat} {l : List Int} {t : TypeId} (h : w.heap[g]? = some (.cells (sumA l) t (0, 0))) (hl : l.length = 29) (i : Nat) (hi : i < 29) : w.cell? ⟨g, i, none⟩ = some (.int .i64 (l.getD i 0)) :=
  (blk_cell h i).trans (sumA_get _ _ (by omega))
theorem sumA_there {w : World} {g : Nat} {l : List Int} {t : TypeId} (h : w.heap[g]? = some (.cells (sumA l) t (0, 0))) (hl : l.length = 29) : w.there g 0 29 := fun j hj => by
  rw [Nat.zero_add, sumA_cell h hl j hj, blk_free h]
  simp
theorem eq_items (l m : List Int) (w : World) (d : Nat) : ∀ (is : List Nat), (∀ i ∈ is, i < l.length ∧ i < m.length) →
    (Op.eqItems (d + 1) 2 1 (sumA l) (sumA m) is).run Try.prog w = .ok (is.all fun i => l.getD i 0 == m.getD i 0) w
  | [], _ => rfl
  | i :: is, h => by
    have hp : Try.prog.plainKey 2 = true := by kernel_rfl
    have h1 := run_part_plain (P := Try.prog) w hp (sumA_get l i (h i (by simp)).1)
    have h2 := run_part_plain (P := Try.prog) w hp (sumA_get m i (h i (by simp)).2)
    have h3 := run_equalIn_int (P := Try.prog) (w := w) d 2 .i64 _ (l.getD i 0) (m.getD i 0) Try.underlying2
    have ih := eq_items l m w d is fun j hj => h j (by simp [hj])
    simp only [Op.eqItems, Nat.mul_one, Sem.run_bind, h1, h2, h3, Result.andThen_ok, List.all_cons]
    cases l.getD i 0 == m.getD i 0
    · rfl
    · simpa using ih
theorem eq_errs (l m : List Int) (w : World) (hl : l.length = 26) (hm : m.length = 26) :
    (Op.equalIn 9999 57 (.agg (sumA l)) (.agg (sumA m))).run Try.prog w = .ok ((List.range 26).all fun i => l.getD i 0 == m.getD i 0) w := by
  obtain ⟨i, hi⟩ := Option.isSome_iff_exists.1 (show (Try.prog.info? 2).isSome = true from by kernel_rfl)
  have h1 := run_equalIn_array (P := Try.prog) w 9998 (sumA l) (sumA m) Try.underlying57 hi
  have h2 : Try.prog.cellsOf 2 = 1 := by kernel_rfl
  rw [h1, h2]
  exact eq_items l m w 9997 _ fun j hj => by rw [hl, hm]; simpa using hj
theorem z29_lit : sumA z29 = #[.int .i64 0, .int .i64 0, .int .i64 0, .int .i64 0, .int .i64 0, .int .i64 0, .int .i64 0, .int .i64 0, .int .i64 0, .int .i64 0, .int .i64 0, .int .i64 0, .int .i64 0, .int .i64 0, .int .i64 0, .int .i64 0, .int .i64 0, .int .i64 0, .int .i64 0, .int .i64 0, .int .i64 0, .int .i64 0, .int .i64 0, .int .i64 0, .int .i64 0, .int .i64 0, .int .i64 0, .int .i64 0, .int .i64 0] := rfl
set_option maxRecDepth 20000 in
set_option maxHeartbeats 8000000 in
theorem sums_walk (a b : List Int) (n : Int) (ha : a.length = 29) (hb : b.length = 29) (w : World) :
    Calls Try.prog 8 #[.agg (sumA a), .agg (sumA b), .int .i64 n] w fun e w' => e = .returned (.bool true) ∧ Below w.heap.size w w' := by
  go_enter Try.func8, Try.ntmps8
  go_upto_region 1 with fail
  have hga : ((w.alloc (.cells (sumA a) 59)).alloc (.cells (sumA b) 59)).heap[w.heap.size]? = some (.cells (sumA a) 59 (0, 0)) := blk_old _ (by simp) (blk_new _ _ _)
  have hgb : ((w.alloc (.cells (sumA a) 59)).alloc (.cells (sumA b) 59)).heap[w.heap.size + 1]? = some (.cells (sumA b) 59 (0, 0)) := by
    have := blk_new (w.alloc (.cells (sumA a) 59)) 59 (sumA b)
    simpa using this
  have hbw : Below w.heap.size w ((w.alloc (.cells (sumA a) 59)).alloc (.cells (sumA b) 59)) := ((Below.refl _ _).alloc (Nat.le_refl _) _).alloc (by simp) _
  have hsz : ((w.alloc (.cells (sumA a) 59)).alloc (.cells (sumA b) 59)).heap.size = w.heap.size + 2 := by simp
  generalize ((w.alloc (.cells (sumA a) 59)).alloc (.cells (sumA b) 59)) = w2 at hga hgb hbw hsz ⊢
  apply wp_region_lit
  refine wpList_load_mid rfl 59 (.tmp 3) rfl w.heap.size 0 rfl (a.map (Value.int .i64)) _ (sumA_range hga) Try.underlying59 rfl (by rw [List.length_map, ha]; rfl) ?_
  refine wpList_load_mid rfl 59 (.tmp 4) rfl (w.heap.size + 1) 0 rfl (b.map (Value.int .i64)) _ (sumA_range hgb) Try.underlying59 rfl (by rw [List.length_map, hb]; rfl) ?_
  replace hga := hide hga
  replace hgb := hide hgb
  replace hbw := hide hbw
  go_wp2_with fail
  refine (plus_any a b ha hb _).mono ?_
  rintro e w3 ⟨rfl, hb3⟩
  dsimp only
  rename_i hK0
  refine hK0 _ _ ?_
  clear hK0
  have hla := plus_len a b ha hb
  have hz3 := hb3.size
  have hga3 := blk_old (.cells (Array.replicate 29 (.int .i64 0)) 59) (by omega) (blk_below hb3 (by omega) hga.out)
  have hgb3 := blk_old (.cells (Array.replicate 29 (.int .i64 0)) 59) (by omega) (blk_below hb3 (by omega) hgb.out)
  have hgc3 := blk_new w3 59 (Array.replicate 29 (.int .i64 0))
  have hbw3 := (hbw.out.trans (hb3.mono (by omega))).alloc (by omega) (.cells (Array.replicate 29 (.int .i64 0)) 59)
  have hs3 : (w3.alloc (.cells (Array.replicate 29 (.int .i64 0)) 59)).heap.size = w3.heap.size + 1 := by simp
  refine wpList_plain rfl fun K hK => ?_
  go_simp
  refine hK _ _ ?_
  clear hK K
  change wpList _ _ _ _ _ (w3.alloc (.cells (Array.replicate 29 (.int .i64 0)) 59))
  generalize w3.alloc (.cells (Array.replicate 29 (.int .i64 0)) 59) = w4 at hga3 hgb3 hgc3 hbw3 hs3 ⊢
  refine wpList_store_mid rfl 59 (.tmp 7) (.tmp 13) rfl w3.heap.size 0 (sumA (plusL a b)) rfl rfl (by rw [sumA_size, hla]; exact sumA_there (l := z29) hgc3 rfl) (by rw [sumA_size, hla]; rfl) (sumA_one _) ?_
  have hgc5 : (w4.setCells w3.heap.size 0 (sumA (plusL a b)).toList).heap[w3.heap.size]? = some (.cells (sumA (plusL a b)) 59 (0, 0)) := sumA_store (l := z29) hgc3 (by rw [hla]; rfl)
  have hB5 := below_cells (Nat.le_refl w3.heap.size) (sumA (plusL a b)).toList 0 (Below.refl w3.heap.size w4)
  generalize w4.setCells w3.heap.size 0 (sumA (plusL a b)).toList = w5 at hgc5 hB5 ⊢
  have hga5 := blk_below hB5 (by omega) hga3
  have hgb5 := blk_below hB5 (by omega) hgb3
  have hbw5 := hbw3.trans (hB5.mono (by omega))
  have hz5 := hB5.size
  refine wpList_nil ?_
  have p1 := fun i (hi : i < 29) => sumA_cell hga5 ha i hi
  have p2 := fun i (hi : i < 29) => sumA_cell hgb5 hb i hi
  have p3 := fun i (hi : i < 29) => sumA_cell hgc5 hla i hi
  have p10 := p1 0 (by omega)
  have p11 := p1 1 (by omega)
  have p12 := p1 2 (by omega)
  have p20 := p2 0 (by omega)
  have p21 := p2 1 (by omega)
  have p22 := p2 2 (by omega)
  have p30 := p3 0 (by omega)
  have p31 := p3 1 (by omega)
  have p32 := p3 2 (by omega)
  rw [plus_get a b _ ha hb (by omega)] at p30 p31 p32
  clear p1 p2 p3 hga hgb hbw hb3 hga3 hgb3 hgc3 hbw3 hB5
  replace hga5 := hide hga5
  replace hgb5 := hide hgb5
  replace hgc5 := hide hgc5
  replace hbw5 := hide hbw5
  go_simp
  go_wp2_with fail
  clear p10 p11 p12 p20 p21 p22 p30 p31 p32
  go_loopw [8] (fun i wr => ∃ k : Nat, k ≤ 26 ∧ i = .int .i64 (k : Int) ∧ Below w5.heap.size w5 wr) (fun i _ => 26 - (intOf i).toNat)
  case atStart => exact ⟨0, by omega, rfl, Below.refl _ _⟩
  case round =>
    obtain ⟨k, hk, rfl, hB⟩ := hrel
    have hzr := hB.size
    have hgar := blk_below hB (by omega) hga5.out
    have hgbr := blk_below hB (by omega) hgb5.out
    have hgcr := blk_below hB (by omega) hgc5.out
    by_cases hlt : k < 26
    · have hji : (k : Int) < 26 := by omega
      have hj0 : (0 : Int) ≤ (k : Int) := by omega
      obtain ⟨x, hx⟩ : ∃ x, a.getD (3 + k) 0 = x := ⟨_, rfl⟩
      obtain ⟨y, hy⟩ : ∃ y, b.getD (3 + k) 0 = y := ⟨_, rfl⟩
      have p1 := fun (l : Later wr) => sumA_cell (blk_below l.hb (show w.heap.size < wr.heap.size by omega) hgar) ha (3 + k) (by omega)
      have p2 := fun (l : Later wr) => sumA_cell (blk_below l.hb (show w.heap.size + 1 < wr.heap.size by omega) hgbr) hb (3 + k) (by omega)
      have p3 := fun (l : Later wr) => sumA_cell (blk_below l.hb (show w3.heap.size < wr.heap.size by omega) hgcr) hla (3 + k) (by omega)
      rw [plus_get a b _ ha hb (by omega), hx, hy] at p3
      rw [hx] at p1
      rw [hy] at p2
      clear hx hy
      replace hB := hide hB
      replace hgar := hide hgar
      replace hgbr := hide hgbr
      replace hgcr := hide hgcr
      go_wp2_with fail
      refine wp_region_L (by as_aux_lemma => kernel_rfl) ?_
      refine wpE_seg 0 14 (fuel := 0) (by as_aux_lemma => kernel_rfl) (fun d _ _ _ _ h => by cases d <;> exact h) (by as_aux_lemma => kernel_rfl) (by as_aux_lemma => kernel_rfl) ?_
      simp only [List.drop_zero, List.take_succ_cons, List.take_zero]
      iterate 14 (refine wpQE_step (fun K hK => ?_); go_simp; refine hK _ ?_; clear hK K)
      refine wpQE_nil ?_
      refine wpE_done (by as_aux_lemma => kernel_rfl) (fun wd hbd => ?_) 0
      clear p1 p2 p3
      have hBd := hB.out.trans (hbd.mono hzr)
      have s1 : IntKind.i64.wrap ((k : Int) + 1) = ((k + 1 : Nat) : Int) := by rw [wraps62 _ (by omega) (by omega)]; omega
      replace hBd := hide hBd
      go_wp2_with fail
      exact ⟨⟨k + 1, by omega, by go_num, hBd.out⟩, by simp [intOf]; omega⟩
    · have hji : ¬ (k : Int) < 26 := by omega
      obtain rfl : k = 26 := by omega
      have hB6 := hbw5.out.trans (hB.mono (by omega))
      replace hB := hide hB
      replace hgar := hide hgar
      replace hgbr := hide hgbr
      replace hgcr := hide hgcr
      replace hB6 := hide hB6
      go_wp2_with fail
      refine (in_nil n _).mono ?_
      rintro e w' ⟨rfl, rfl⟩
      go_wp2_with fail
      refine (out_nil n _).mono ?_
      rintro e w' ⟨rfl, rfl⟩
      go_wp2_with fail
      refine (sum_nil _).mono ?_
      rintro e w6 ⟨rfl, hb6⟩
      simp only [z29_lit]
      have heq : ∀ w, (Op.equalIn 9999 57 (.agg #[.int .i64 0, .int .i64 0, .int .i64 0, .int .i64 0, .int .i64 0, .int .i64 0, .int .i64 0, .int .i64 0, .int .i64 0, .int .i64 0, .int .i64 0, .int .i64 0, .int .i64 0, .int .i64 0, .int .i64 0, .int .i64 0, .int .i64 0, .int .i64 0, .int .i64 0, .int .i64 0, .int .i64 0, .int .i64 0, .int .i64 0, .int .i64 0, .int .i64 0, .int .i64 0]) (.agg #[.int .i64 0, .int .i64 0, .int .i64 0, .int .i64 0, .int .i64 0, .int .i64 0, .int .i64 0, .int .i64 0, .int .i64 0, .int .i64 0, .int .i64 0, .int .i64 0, .int .i64 0, .int .i64 0, .int .i64 0, .int .i64 0, .int .i64 0, .int .i64 0, .int .i64 0, .int .i64 0, .int .i64 0, .int .i64 0, .int .i64 0, .int .i64 0, .int .i64 0, .int .i64 0])).run Try.prog w = .ok true w := fun w => eq_errs (List.replicate 26 0) (List.replicate 26 0) w rfl rfl
      go_wp2_with fail
      refine (clear_nil _).mono ?_
      rintro e w7 ⟨rfl, hb7⟩
      simp only [z29_lit]
      go_wp2_with fail
      clear heq
      refine (of_nil n _).mono ?_
      rintro e w' ⟨rfl, rfl⟩
      go_wp2_with fail
      refine (take_nil _).mono ?_
      rintro e w' ⟨rfl, rfl⟩
      go_wp2_with fail
      refine (give_nil _).mono ?_
      rintro e w' ⟨rfl, rfl⟩
      go_wp2_with fail
      refine (taken_nil _).mono ?_
      rintro e w' ⟨rfl, rfl⟩
      go_wp2_with fail
      refine (Limit.awake31 _).mono ?_
      rintro e w8 ⟨rfl, hb8⟩
      have hz6 := hb6.size
      have hz7 := hb7.size
      have hB8 := ((hB6.out.trans (hb6.mono (by omega))).trans (hb7.mono (by omega))).trans (hb8.mono (by omega))
      replace hB8 := hide hB8
      go_wp2_with fail
      go_ret
      exact ⟨rfl, hB8.out⟩
theorem sums_row (a b : List Int) (n : Int) (w : World) (ha : a.length = 29) (hb : b.length = 29) (_hn : (Lit.int IntKind.i64 n).wf = true) :
    Calls Try.prog 8 #[.agg (sumA a), .agg (sumA b), .int .i64 n] w fun e w' => e = .returned (.bool true) ∧ Below w.heap.size w w' := sums_walk a b n ha hb w
end Count
end Go.Proofs.Ytniieckjooahfaa
