/- Plain words on headers that extend one: which may be, their bytes, and that bytes are read as them. No condition. -/
import Derived.Test.YtfmmmjaficbchaaQNatFlows8
import Derived.Test.YtfmmmjaficbchaaQNatFlows4
import Derived.Test.YtfmmmjaficbchaaQNatFlows9
import Derived.Test.YtfmmmjaficbchaaQNatFlows3
namespace Go.Proofs.Ytfmmmjaficbchaa
open Go.RowKit Go.ChangeShapes Go.WideShapes Go.ChangeAt Go.Deep
namespace Six
/-- May one extend at a place? -/
def rightExtB (k : Int) (at_ : Int) (xs : List UInt8) : Bool :=
  isB k && (!((k == 0) && decide (0 < at_)) && (decide (xs.length % 8 = 7) && (decide (xs.length ≤ 2047) && (if k = 44 then decide (xs.length = 7) else decide ((xs.getD 0 0).toNat = xs.length / 8)))))
/-- What comes next. -/
def nextP : List (Int × List UInt8) → Int → Int
  | [], p => p
  | e :: _, _ => e.1
/-- Their bytes. -/
def extB : List (Int × List UInt8) → Int → List UInt8
  | [], _ => []
  | e :: es, p => UInt8.ofNat (nextP es p).toNat :: (e.2 ++ extB es p)
def sumP (es : List (Int × List UInt8)) : Nat := (es.map fun e => e.2.length + 1).sum
theorem extB_length : ∀ (es : List (Int × List UInt8)) (p : Int), (extB es p).length = sumP es
  | [], _ => rfl
  | e :: es, p => by
    have := extB_length es p
    simp only [extB, List.length_cons, List.length_append, sumP, List.map_cons, List.sum_cons] at this ⊢
    omega
/-- May the first m be? -/
def rightTo (es : List (Int × List UInt8)) (m : Nat) : Bool :=
  (List.range m).all fun i => match es[i]? with
    | some e => rightExtB e.1 (i : Int) e.2 && decide (fragP (es.take i) = 0)
    | none => true
theorem rightTo_succ (es : List (Int × List UInt8)) (m : Nat) (e : Int × List UInt8) (h : es[m]? = some e) : rightTo es (m + 1) = (rightTo es m && (rightExtB e.1 (m : Int) e.2 && decide (fragP (es.take m) = 0))) := by
  unfold rightTo
  rw [List.range_succ, List.all_append]
  simp [h]
theorem rightTo_app (acc new : List (Int × List UInt8)) : ∀ m, m ≤ acc.length → rightTo (acc ++ new) m = rightTo acc m
  | 0, _ => rfl
  | m + 1, h => by
    have h1 : acc[m]? = some acc[m] := List.getElem?_eq_getElem (by omega)
    have h2 : (acc ++ new)[m]? = some acc[m] := by rw [List.getElem?_append_left (by omega), h1]
    rw [rightTo_succ _ m _ h1, rightTo_succ _ m _ h2, rightTo_app acc new m (by omega), List.take_append_of_le_length (by omega)]
theorem rightTo_le (es : List (Int × List UInt8)) {m k : Nat} (h : rightTo es m = true) (hk : k ≤ m) : rightTo es k = true := by
  unfold rightTo at *
  rw [List.all_eq_true] at *
  intro i hi
  exact h i (by rw [List.mem_range] at *; omega)
theorem cut_rs (rs : List UInt8) (size : Nat) (h1 : 1 ≤ size) (h2 : size ≤ rs.length) : rs = rs.getD 0 0 :: ((rs.take size).drop 1 ++ rs.drop size) := by
  obtain ⟨k, rfl⟩ : ∃ k, size = k + 1 := ⟨size - 1, by omega⟩
  cases rs with
  | nil => simp at h2
  | cons x t => simp
theorem frag_nil : fragP [] = 0 := rfl
/-- What comes up of a chain. -/
theorem chainF_sound : ∀ (f next : Nat) (rs : List UInt8) (acc acc' : List (Int × List UInt8)) (next' : Nat) (rest' : List UInt8), chainF f next rs acc = some (acc', next', rest') → rightTo acc acc.length = true → fragP acc = 0 → acc.length ≤ 8 → next ≤ 255 →
    ∃ new, acc' = acc ++ new ∧ nextP new (next' : Int) = (next : Int) ∧ rs = extB new (next' : Int) ++ rest' ∧ rightTo acc' acc'.length = true ∧ isB (next' : Int) = false ∧ next' ≤ 255 ∧ acc'.length ≤ 8
  := by
  intro f
  induction f with
  | zero => intro next rs acc acc' next' rest' h; simp [chainF] at h
  | succ f ih =>
    intro next rs acc acc' next' rest' h hr hf hl hn
    unfold chainF at h
    split at h
    · rename_i hb
      simp only [Option.some.injEq, Prod.mk.injEq] at h
      obtain ⟨rfl, rfl, rfl⟩ := h
      exact ⟨[], by simp, rfl, rfl, hr, hb, hn, hl⟩
    · rename_i hb
      split at h
      · cases h
      · rename_i h8
        split at h
        · cases h
        · rename_i hsz
          have hb' : isB (next : Int) = true := by simpa using hb
          obtain ⟨size, hs⟩ : ∃ size, sizeP next rs = size := ⟨_, rfl⟩
          rw [hs] at h hsz
          have hv : (rs.getD 1 0).toNat ≤ 255 := by have := (rs.getD 1 0).toNat_lt; omega
          have hs1 : 8 ≤ size := by rw [← hs]; unfold sizeP; split <;> omega
          have hcut := cut_rs rs size (by omega) (by omega)
          obtain ⟨e2, he2⟩ : ∃ e2, (rs.take size).drop 1 = e2 := ⟨_, rfl⟩
          rw [he2] at h hcut
          have he2l : e2.length = size - 1 := by rw [← he2, List.length_drop, List.length_take]; omega
          have he20 : e2.getD 0 0 = rs.getD 1 0 := by
            rw [← he2]
            simp only [List.getD, List.getElem?_drop, List.getElem?_take_of_lt (show 1 + 0 < size by omega)]
          have hre : rightExtB (next : Int) (acc.length : Int) e2 = true := by
            unfold rightExtB
            rw [hb', he2l, he20]
            have hz : (!(((next : Int) == 0) && decide ((0 : Int) < (acc.length : Int)))) = true := by
              by_cases h0 : next = 0
              · have : ¬ 0 < acc.length := fun h => hsz (.inr ⟨h0, h⟩)
                have h3 : ¬ ((0 : Int) < (acc.length : Int)) := by omega
                rw [decide_eq_false h3]
                simp
              · simp [h0]
            rw [hz]
            by_cases h44 : next = 44
            · have : size = 8 := by rw [← hs]; unfold sizeP; rw [if_pos h44]
              subst this
              rw [if_pos (by omega)]
              rfl
            · have : size = 8 + 8 * (rs.getD 1 0).toNat := by rw [← hs]; unfold sizeP; rw [if_neg h44]
              have h44' : ¬ (next : Int) = 44 := by omega
              simp only [if_neg h44', Bool.true_and]
              simp only [Bool.and_eq_true, decide_eq_true_eq]
              omega
          have hget : (acc ++ [((next : Int), e2)])[acc.length]? = some ((next : Int), e2) := by simp
          have hr1 : rightTo (acc ++ [((next : Int), e2)]) (acc ++ [((next : Int), e2)]).length = true := by
            rw [List.length_append, List.length_singleton, rightTo_succ _ _ _ hget, rightTo_app _ _ _ (Nat.le_refl _), hr, hre, List.take_left]
            simp [hf]
          have hl1 : (acc ++ [((next : Int), e2)]).length ≤ 8 := by
            simp only [List.length_append, List.length_singleton]; omega
          have hq : UInt8.ofNat (((rs.getD 0 0).toNat : Int)).toNat = rs.getD 0 0 := by simp
          have hq255 : (rs.getD 0 0).toNat ≤ 255 := by have := (rs.getD 0 0).toNat_lt; omega
          split at h
          · split at h
            · cases h
            · rename_i hb2
              simp only [Option.some.injEq, Prod.mk.injEq] at h
              obtain ⟨rfl, rfl, rfl⟩ := h
              refine ⟨[((next : Int), e2)], rfl, rfl, ?_, hr1, by simpa using hb2, hq255, hl1⟩
              simp only [extB, nextP, hq, List.append_nil]
              exact hcut
          · rename_i hfr
            obtain ⟨new, h1, h2, h3, h4⟩ := ih _ _ _ acc' next' rest' h hr1 (by omega) hl1 hq255
            refine ⟨((next : Int), e2) :: new, by rw [h1]; simp, rfl, ?_, h4⟩
            simp only [extB, h2, hq, List.cons_append, List.append_assoc]
            rw [← h3]
            exact hcut
/-- What was put is read again. -/
theorem chainF_back (p : Int) (pl : List UInt8) (hp0 : 0 ≤ p) (hp : p ≤ 255) (hb : isB p = false) : ∀ (es acc : List (Int × List UInt8)) (f : Nat), rightTo (acc ++ es) (acc ++ es).length = true → (acc ++ es).length ≤ 8 → (fragP acc = 0 ∨ es = []) → es.length + 1 ≤ f →
    (fragP acc = 0) → chainF f (nextP es p).toNat (extB es p ++ pl) acc = some (acc ++ es, p.toNat, pl)
  := by
  intro es
  induction es with
  | nil =>
    intro acc f _ _ _ hf _
    obtain ⟨f, rfl⟩ : ∃ f', f = f' + 1 := ⟨f - 1, by simp at hf; omega⟩
    have hpt : ((p.toNat : Nat) : Int) = p := by omega
    unfold chainF
    simp only [nextP, hpt, hb, if_true, extB, List.nil_append, List.append_nil]
  | cons e es ih =>
    obtain ⟨k, d⟩ := e
    intro acc f hr hl _ hf hfr
    obtain ⟨f, rfl⟩ : ∃ f', f = f' + 1 := ⟨f - 1, by simp at hf; omega⟩
    have hget : (acc ++ (k, d) :: es)[acc.length]? = some (k, d) := by simp
    have hr1 := rightTo_le _ hr (k := acc.length + 1) (by simp)
    rw [rightTo_succ _ _ _ hget] at hr1
    simp only [Bool.and_eq_true, decide_eq_true_eq] at hr1
    have hre := hr1.2.1
    unfold rightExtB at hre
    simp only [Bool.and_eq_true] at hre
    obtain ⟨hk, hz, h7, h47, hd0⟩ := hre
    have hkn : 0 ≤ k ∧ k ≤ 60 := by
      unfold isB at hk
      simp only [decide_eq_true_eq] at hk
      omega
    have hkt : ((k.toNat : Nat) : Int) = k := by omega
    simp only [decide_eq_true_eq] at h7 h47
    have hal : acc.length ≤ 7 := by simp at hl; omega
    obtain ⟨nx, hnx⟩ : ∃ nx, nextP es p = nx := ⟨_, rfl⟩
    have hnx2 : 0 ≤ nx ∧ nx ≤ 255 := by
      rw [← hnx]
      cases es with
      | nil => exact ⟨hp0, hp⟩
      | cons e2 es2 =>
        have hget2 : (acc ++ (k, d) :: e2 :: es2)[acc.length + 1]? = some e2 := by
          rw [List.getElem?_append_right (by omega)]; simp
        have hr2 := rightTo_le _ hr (k := acc.length + 1 + 1) (by simp; omega)
        rw [rightTo_succ _ _ _ hget2] at hr2
        simp only [Bool.and_eq_true] at hr2
        have h3 := hr2.2.1
        unfold rightExtB at h3
        simp only [Bool.and_eq_true] at h3
        have h4 := h3.1
        unfold isB at h4
        simp only [decide_eq_true_eq] at h4
        show 0 ≤ e2.1 ∧ e2.1 ≤ 255
        omega
    have hrs0 : (extB ((k, d) :: es) p ++ pl).getD 0 0 = UInt8.ofNat nx.toNat := by simp [extB, hnx]
    have hn8 : (UInt8.ofNat nx.toNat).toNat = nx.toNat := by rw [UInt8.toNat_ofNat']; omega
    have hlen : (extB ((k, d) :: es) p ++ pl).length = d.length + 1 + ((extB es p).length + pl.length) := by
      simp [extB]; omega
    have hrs1 : 0 < d.length → (extB ((k, d) :: es) p ++ pl).getD 1 0 = d.getD 0 0 := by
      intro h
      cases d with
      | nil => simp at h
      | cons x t => simp [extB]
    have hsize : sizeP k.toNat (extB ((k, d) :: es) p ++ pl) = d.length + 1 := by
      unfold sizeP
      by_cases h44 : k = 44
      · subst h44
        simp only [if_true, decide_eq_true_eq] at hd0
        rw [if_pos (by rfl)]
        omega
      · rw [if_neg h44] at hd0
        simp only [decide_eq_true_eq] at hd0
        rw [if_neg (by omega), hrs1 (by omega), hd0]
        omega
    have htake : ((extB ((k, d) :: es) p ++ pl).take (d.length + 1)).drop 1 = d := by simp [extB]
    have hdrop : (extB ((k, d) :: es) p ++ pl).drop (d.length + 1) = extB es p ++ pl := by simp [extB]
    unfold chainF
    simp only [nextP, hkt, hk, hsize, htake, hdrop, hrs0, hn8]
    rw [if_neg (by simp), if_neg (by omega), if_neg ?_]
    · by_cases hff : 0 < fragP (acc ++ [(k, d)])
      · have hes : es = [] := by
          cases es with
          | nil => rfl
          | cons e2 es2 =>
            exfalso
            have hget2 : (acc ++ (k, d) :: e2 :: es2)[acc.length + 1]? = some e2 := by
              rw [List.getElem?_append_right (by omega)]; simp
            have hr2 := rightTo_le _ hr (k := acc.length + 1 + 1) (by simp; omega)
            rw [rightTo_succ _ _ _ hget2] at hr2
            simp only [Bool.and_eq_true, decide_eq_true_eq] at hr2
            have h3 := hr2.2.2
            rw [show acc ++ (k, d) :: e2 :: es2 = (acc ++ [(k, d)]) ++ (e2 :: es2) by simp, show acc.length + 1 = (acc ++ [(k, d)]).length by simp, List.take_left] at h3
            omega
        subst hes
        simp only [nextP] at hnx
        subst hnx
        have hpt : ((p.toNat : Nat) : Int) = p := by omega
        rw [if_pos hff, hpt, hb]
        simp [extB]
      · rw [if_neg hff]
        have h5 := ih (acc ++ [(k, d)]) f (by simpa using hr) (by simpa using hl) (.inl (by omega)) (by simp at hf; omega) (by omega)
        rw [hnx] at h5
        rw [h5]
        simp
    · rintro (h | ⟨h0, h1⟩)
      · omega
      · have : k = 0 := by omega
        subst this
        have h1' : (0 : Int) < (acc.length : Int) := by omega
        rw [decide_eq_true h1'] at hz
        cases hz
end Six
end Go.Proofs.Ytfmmmjaficbchaa
/- six.RightExt and the law's rightExt by contract. Conditions: slices of bytes that read as lists. -/
namespace Go.Proofs.Ytfmmmjaficbchaa
open Go.RowKit Go.ChangeShapes Go.WideShapes Go.ChangeAt Go.Deep
namespace Six
theorem rightExtB_no {k at_ : Int} {xs : List UInt8} {n : Nat} (hl : xs.length = n) (h : ¬ (isB k = true ∧ n % 8 = 7)) : rightExtB k at_ xs = false := by
  unfold rightExtB
  rw [hl]
  rcases hk : isB k with _ | _
  · rfl
  · have : ¬ n % 8 = 7 := fun h2 => h ⟨hk, h2⟩
    simp [this]
theorem rightExtB_as {k at_ : Int} {xs : List UInt8} {n v0 q : Nat} (hl : xs.length = n) (hk : isB k = true) (h8 : n % 8 = 7) (hv : (xs.getD 0 0).toNat = v0) (hq : n / 8 = q) :
    rightExtB k at_ xs = decide (¬ (k = 0 ∧ 0 < at_) ∧ n ≤ 2047 ∧ (k = 44 → n = 7) ∧ (k ≠ 44 → v0 = q)) := by
  unfold rightExtB
  rw [hl, hk, hv, hq, Bool.eq_iff_iff, decide_eq_true_iff]
  by_cases h44 : k = 44
  · simp [h44, h8]
  · by_cases h0 : k = 0 <;> simp [h44, h8, h0]
set_option maxRecDepth 4000 in
set_option maxHeartbeats 4000000 in
theorem rightExt_any (k at_ : Int) (A : Option Addr) (n c : Nat) (xs : List UInt8) (w : World) (hx : IsB w w.heap.size A n xs) (hn : n ≤ maxLen) :
    Calls Try.prog 98 #[.agg #[.int .i64 k, .slice A n c], .int .i64 at_] w fun e w' => e = .returned (.bool (rightExtB k at_ xs)) ∧ Below w.heap.size w w' := by
  unfold maxLen at hn
  obtain ⟨r, hr⟩ : ∃ r, rightExtB k at_ xs = r := ⟨_, rfl⟩
  rw [hr]
  have hxl := hx.1
  have hbox := blk_new w 121 #[.int .i64 k, .slice A n c]
  obtain ⟨w1, hw1⟩ : ∃ w1, w.alloc (.cells #[.int .i64 k, .slice A n c] 121) = w1 := ⟨_, rfl⟩
  have hbb : Below w.heap.size w w1 := hw1 ▸ (Below.refl _ _).alloc (Nat.le_refl _) _
  have hlt : w.heap.size < w1.heap.size := by rw [← hw1]; simp
  rw [hw1] at hbox
  have hcg := blk_cell hbox
  have hx1 := hx.on hbb
  replace hx := hide hx
  replace hbb := hide hbb
  replace hbox := hide hbox
  by_cases h8 : n % 8 = 7
  · have m7 : ((n : Int) % 8 != 7) = false := by rw [bne_eq_false_iff_eq]; omega
    obtain ⟨b, off, v0, rfl, hbl, hv0, hv0l, hc0⟩ := hx1.byte (i := 0) (by omega)
    rw [Nat.add_zero] at hc0
    obtain ⟨q, hq⟩ : ∃ q, n / 8 = q := ⟨_, rfl⟩
    have s1 : (n : Int).tdiv 8 = (q : Int) := by rw [Int.tdiv_eq_ediv_of_nonneg (by omega)]; omega
    have s1' : (n : Int) / 8 = (q : Int) := by omega
    have s2 : IntKind.i64.wrap (q : Int) = (q : Int) := wraps62 _ (by omega) (by omega)
    have s3 : IntKind.i64.wrap (v0 : Int) = (v0 : Int) := wraps62 _ (by omega) (by omega)
    have i0 : (0 : Int) < (n : Int) := by omega
    have j0 : 0 < n := by omega
    have hd0 := fun l : Later w1 => l.cell hc0
    have hcl := fun (l : Later w1) (o : Nat) => blk_cell (blk_below l.hb hlt hbox.out) o
    have hp := fun hk => hr.symm.trans (rightExtB_as (k := k) (at_ := at_) hxl hk h8 hv0 hq)
    clear hc0
    replace hv0 := hide hv0
    replace hq := hide hq
    replace hx1 := hide hx1
    replace h8 := hide h8
    replace hxl := hide hxl
    replace hp := hide hp
    replace hr := hide hr
    go_enter Try.func98, Try.ntmps98
    go_wp2_with fail
    refine (is_any k _).mono ?_
    rintro e w' ⟨rfl, rfl⟩
    clear hw1
    rcases hk : isB k with _ | _
    · have hno := hr.out.symm.trans <| rightExtB_no (k := k) (at_ := at_) hxl.out (fun h => by rw [hk] at h; cases h.1)
      replace hk := hide hk
      replace hno := hide hno
      go_wp2_with fail
      go_ret
      exact ⟨ret_bool hno.out.symm, hbb.out⟩
    · replace hp := hide (hp.out hk)
      replace hk := hide hk
      go_wp2_with fail
      all_goals (try (go_ret; exact ⟨ret_bool (by rw [hp.out]; first | exact (decide_eq_false (by omega)).symm | (rw [Bool.eq_iff_iff, beq_iff_eq, decide_eq_true_iff]; (first | omega | (have h44 := ‹(k == 44) = true›; simp only [beq_iff_eq] at h44; omega) | (have h44 := ‹(k == 44) = false›; simp only [beq_eq_false_iff_ne, ne_eq] at h44; omega)))), hbb.out⟩))
      all_goals
        clear hcg
        refine wp_region_L (by as_aux_lemma => kernel_rfl) ?_
        refine wpE_seg 0 11 (fuel := 0) (by as_aux_lemma => kernel_rfl) (fun d _ _ _ _ h => by cases d <;> exact h) (by as_aux_lemma => kernel_rfl) (by as_aux_lemma => kernel_rfl) ?_
        simp only [List.drop_zero, List.take_succ_cons, List.take_zero]
        iterate 11 (refine wpQE_step (fun K hK => ?_); go_simp; refine hK _ ?_; clear hK K)
        refine wpQE_nil ?_
        refine wpE_done (by as_aux_lemma => kernel_rfl) (fun w3 hb3 => ?_) 0
        have hb03 := hbb.out.trans (hb3.mono (Nat.le_of_lt hlt))
        clear hb3 hcl hd0
        replace hb03 := hide hb03
        go_wp2_with fail
        go_ret
        exact ⟨ret_bool (by rw [hp.out, Bool.eq_iff_iff, beq_iff_eq, decide_eq_true_iff]; (first | omega | (have h44 := ‹(k == 44) = true›; simp only [beq_iff_eq] at h44; omega) | (have h44 := ‹(k == 44) = false›; simp only [beq_eq_false_iff_ne, ne_eq] at h44; omega))), hb03.out⟩
  · have m7 : ((n : Int) % 8 != 7) = true := by rw [bne_iff_ne]; omega
    have hno := hr.symm.trans <| rightExtB_no (k := k) (at_ := at_) hxl (fun h => h8 h.2)
    replace hx1 := hide hx1
    replace h8 := hide h8
    replace hxl := hide hxl
    replace hno := hide hno
    replace hr := hide hr
    go_enter Try.func98, Try.ntmps98
    go_wp2_with fail
    refine (is_any k _).mono ?_
    rintro e w' ⟨rfl, rfl⟩
    clear hw1
    rcases hk : isB k with _ | _
    all_goals
      replace hk := hide hk
      go_wp2_with fail
      all_goals (go_ret; exact ⟨ret_bool hno.out.symm, hbb.out⟩)
end Six
end Go.Proofs.Ytfmmmjaficbchaa
/- six.Right and the law's right by contract: which headers may be. Conditions: slices that read as lists. -/
namespace Go.Proofs.Ytfmmmjaficbchaa
open Go.RowKit Go.ChangeShapes Go.WideShapes Go.ChangeAt Go.Deep
namespace Six
theorem IsX.take {w : World} {B n m : Nat} {A : Option Addr} {es : List Ext} (h : IsX w B A n es) (hm : m ≤ n) : IsX w B A m (es.take m) := by
  obtain ⟨hl, hv, hp⟩ := h
  refine ⟨by rw [List.length_take]; omega, ⟨by rw [cells_length, List.length_take]; omega, fun h0 => ?_⟩, fun e he => hp e (List.mem_of_mem_take he)⟩
  obtain ⟨b, off, e, hb, hc⟩ := hv.2 (by omega)
  refine ⟨b, off, e, hb, fun i hi => ?_⟩
  have h1 : cells es = cells (es.take m) ++ cells (es.drop m) := by
    unfold cells
    rw [← List.flatMap_append, List.take_append_drop]
  have hl2 : (cells (es.take m)).length = m * 2 := by rw [cells_length, List.length_take]; omega
  have hpre : cells (es.take m) = (cells es).take (m * 2) := by rw [h1, ← hl2, List.take_left]
  have hi2 : i < (cells es).length := by rw [cells_length]; rw [cells_length, List.length_take] at hi; omega
  rw [hc i hi2]
  simp [hpre, List.getElem_take]
def pes (es : List Ext) : List (Int × List UInt8) := es.map Ext.pe
theorem pes_length (es : List Ext) : (pes es).length = es.length := by simp [pes]
theorem pes_take (es : List Ext) (m : Nat) : pes (es.take m) = (pes es).take m := by simp [pes, List.map_take]
theorem pes_get {es : List Ext} {i : Nat} {e : Ext} (h : es[i]? = some e) : (pes es)[i]? = some (e.k, e.xs) := by simp [pes, h, Ext.pe]
theorem pes_frag (es : List Ext) : beN (partB es) 1 2 / 8 = fragP (pes es) := by rw [partB_eq]; rfl
/-- May a header be? -/
def rightHB (cls lab hop : Int) (sv dv : Bool) (proto : Int) (es : List (Int × List UInt8)) : Bool :=
  decide (0 ≤ cls ∧ cls ≤ 255 ∧ 0 ≤ hop ∧ hop ≤ 255 ∧ 0 ≤ lab ∧ lab ≤ 1048575 ∧ sv = true ∧ dv = true ∧ 0 ≤ proto ∧ proto ≤ 255 ∧ isB proto = false ∧ es.length ≤ 8) && rightTo es es.length
theorem rightHB_no {cls lab hop : Int} {sv dv : Bool} {proto : Int} {es : List (Int × List UInt8)}
    (h : ¬ (0 ≤ cls ∧ cls ≤ 255 ∧ 0 ≤ hop ∧ hop ≤ 255 ∧ 0 ≤ lab ∧ lab ≤ 1048575 ∧ sv = true ∧ dv = true ∧ 0 ≤ proto ∧ proto ≤ 255 ∧ isB proto = false ∧ es.length ≤ 8)) : rightHB cls lab hop sv dv proto es = false := by
  unfold rightHB
  rw [decide_eq_false h]
  rfl
theorem rightHB_yes {cls lab hop : Int} {sv dv : Bool} {proto : Int} {es : List (Int × List UInt8)}
    (h : 0 ≤ cls ∧ cls ≤ 255 ∧ 0 ≤ hop ∧ hop ≤ 255 ∧ 0 ≤ lab ∧ lab ≤ 1048575 ∧ sv = true ∧ dv = true ∧ 0 ≤ proto ∧ proto ≤ 255 ∧ isB proto = false ∧ es.length ≤ 8) : rightHB cls lab hop sv dv proto es = rightTo es es.length := by
  unfold rightHB
  rw [decide_eq_true h]
  rfl
theorem rightTo_stop {es : List (Int × List UInt8)} {m : Nat} {e : Int × List UInt8} (h : es[m]? = some e) (hn : (rightExtB e.1 (m : Int) e.2 && decide (fragP (es.take m) = 0)) = false) : rightTo es es.length = false := by
  rcases hr : rightTo es es.length with _ | _
  · rfl
  · have hl := (List.getElem?_eq_some_iff.1 h).1
    have h1 := rightTo_le es hr (k := m + 1) (by omega)
    rw [rightTo_succ es m e h, hn] at h1
    simp at h1
set_option maxRecDepth 4000 in
set_option maxHeartbeats 8000000 in
theorem right_any (cls lab hop : Int) (sv : Bool) (shi slo : Int) (dv : Bool) (dhi dlo : Int) (X : Option Addr) (n c : Nat) (proto : Int) (es : List Ext) (w : World) (hx : IsX w w.heap.size X n es) (hnc : n ≤ c) (hcm : c ≤ maxLen) :
    Calls Try.prog 88 #[hdV cls lab hop sv shi slo dv dhi dlo X n c proto] w fun e w' => e = .returned (.bool (rightHB cls lab hop sv dv proto (pes es))) ∧ Below w.heap.size w w' := by
  obtain ⟨r, hr⟩ : ∃ r, rightHB cls lab hop sv dv proto (pes es) = r := ⟨_, rfl⟩
  rw [hr]
  unfold maxLen at hcm
  have hbox := blk_new w 98 #[.int .i64 cls, .int .i64 lab, .int .i64 hop, .bool sv, .int .u64 shi, .int .u64 slo, .bool dv, .int .u64 dhi, .int .u64 dlo, .slice X n c, .int .i64 proto]
  obtain ⟨w1, hw1⟩ : ∃ w1, w.alloc (hdC cls lab hop sv shi slo dv dhi dlo X n c proto) = w1 := ⟨_, rfl⟩
  have hb1 : Below w.heap.size w w1 := hw1 ▸ (Below.refl _ _).alloc (Nat.le_refl _) _
  have hlt1 : w.heap.size < w1.heap.size := by rw [← hw1]; simp
  unfold hdC at hw1
  rw [hw1] at hbox
  have hcg := blk_cell hbox
  have hx1 := hx.on hb1
  have hpl : (pes es).length = n := by rw [pes_length]; exact hx.1
  replace hx := hide hx
  replace hx1 := hide hx1
  replace hb1 := hide hb1
  replace hbox := hide hbox
  replace hpl := hide hpl
  replace hr := hide hr
  unfold hdV
  go_enter Try.func88, Try.ntmps88
  go_wp2_with fail
  all_goals (try (go_ret; refine ⟨ret_bool (hr.out.symm.trans (rightHB_no ?_)).symm, hb1.out⟩; intro hh; first | omega | simp_all))
  refine (is_any proto _).mono ?_
  rintro e w' ⟨rfl, rfl⟩
  clear hw1
  rcases hk : isB proto with _ | _
  case true =>
    replace hk := hide hk
    go_wp2_with fail
    go_ret
    refine ⟨ret_bool (hr.out.symm.trans (rightHB_no ?_)).symm, hb1.out⟩
    intro hh
    rw [hk.out] at hh
    simp at hh
  replace hk := hide hk
  by_cases h8 : n ≤ 8
  case neg =>
    have h8' : (8 : Int) < (n : Int) := by omega
    go_wp2_with fail
    go_ret
    refine ⟨ret_bool (hr.out.symm.trans (rightHB_no ?_)).symm, hb1.out⟩
    intro hh
    rw [hpl.out] at hh
    omega
  have h8' : ¬ (8 : Int) < (n : Int) := by omega
  have hryes : r = rightTo (pes es) n := hr.out.symm.trans ((rightHB_yes ⟨by omega, by omega, by omega, by omega, by omega, by omega, by assumption, by assumption, by omega, by omega, hk.out, by rw [hpl.out]; exact h8⟩).trans (by rw [hpl.out]))
  replace hryes := hide hryes
  go_wp2_with fail
  go_loopw [70] (fun i wr => ∃ j : Nat, j ≤ n ∧ i = .int .i64 (j : Int) ∧ rightTo (pes es) j = true ∧ Below w1.heap.size w1 wr) (fun i _ => n - (intOf i).toNat)
  case atStart => exact ⟨0, Nat.zero_le _, rfl, rfl, Below.refl _ _⟩
  case round =>
    obtain ⟨j, hj, rfl, hrt, hbr⟩ := hrel
    have hxr := hx1.out.on hbr
    have hgr := blk_below hbr hlt1 hbox.out
    have hltr := Nat.lt_of_lt_of_le hlt1 hbr.size
    clear hcg
    have hcg := blk_cell hgr
    replace hrt := hide hrt
    replace hbr := hide hbr
    replace hgr := hide hgr
    by_cases hlt : j < n
    · have hji : (j : Int) < (n : Int) := by omega
      have hj0 : (0 : Int) ≤ (j : Int) := by omega
      have hjc : (j : Int) ≤ (c : Int) := by omega
      obtain ⟨f, hf⟩ : ∃ f, beN (partB (es.take j)) 1 2 / 8 = f := ⟨_, rfl⟩
      have hff : fragP ((pes es).take j) = f := by rw [← hf, pes_frag, pes_take]
      have hxt := hxr.take (m := j) (by omega)
      obtain ⟨b, off, k, Ae, ce, xs, rfl, hbl, hge, hc0, hc1, hbx, hxc, hxm⟩ := hxr.at hlt
      have hpg := pes_get hge
      have hxt3 := (hxt.alloc (.cells #[.int .i64 k, .slice Ae xs.length ce] 121)).alloc (hdC 0 0 0 false 0 0 false 0 0 (some ⟨b, off, none⟩) j c 0)
      have hbx3 := (hbx.alloc (.cells #[.int .i64 k, .slice Ae xs.length ce] 121)).alloc (hdC 0 0 0 false 0 0 false 0 0 (some ⟨b, off, none⟩) j c 0)
      have hb3 : Below wr.heap.size wr ((wr.alloc (.cells #[.int .i64 k, .slice Ae xs.length ce] 121)).alloc (hdC 0 0 0 false 0 0 false 0 0 (some ⟨b, off, none⟩) j c 0)) := ((Below.refl _ _).alloc (Nat.le_refl _) _).alloc (by simp) _
      have hg3 : ((wr.alloc (.cells #[.int .i64 k, .slice Ae xs.length ce] 121)).alloc (hdC 0 0 0 false 0 0 false 0 0 (some ⟨b, off, none⟩) j c 0)).heap[wr.heap.size + 1]? = some (hdC 0 0 0 false 0 0 false 0 0 (some ⟨b, off, none⟩) j c 0) := by simpa using blk_new (wr.alloc (.cells #[.int .i64 k, .slice Ae xs.length ce] 121)) 98 #[.int .i64 0, .int .i64 0, .int .i64 0, .bool false, .int .u64 0, .int .u64 0, .bool false, .int .u64 0, .int .u64 0, .slice (some ⟨b, off, none⟩) j c, .int .i64 0]
      unfold hdC at hxt3 hbx3 hb3 hg3
      clear hge hbx hxt
      replace hxr := hide hxr
      replace hxt3 := hide hxt3
      replace hf := hide hf
      replace hff := hide hff
      replace hbx3 := hide hbx3
      replace hpg := hide hpg
      replace hb3 := hide hb3
      replace hg3 := hide hg3
      go_wp2_with fail
      refine (rightExt_any k _ Ae xs.length ce xs _ hbx3.out (by omega)).mono ?_
      rintro e w2 ⟨rfl, hb2⟩
      have hz2 := hb2.size
      simp only [World.size_alloc] at hz2
      have hg2 := blk_below hb2 (by simp) hg3.out
      have hB2 := hbr.out.trans ((hb3.out.trans (hb2.mono (by simp; omega))).mono hbr.out.size)
      have hxt2 := hxt3.out.on hb2
      clear hcg hb2
      have hcg := blk_cell hg2
      replace hg2 := hide hg2
      replace hB2 := hide hB2
      replace hxt2 := hide hxt2
      rcases hre : rightExtB k (j : Int) xs with _ | _
      · have hstop := hryes.out.trans ((congrArg (rightTo (pes es)) hpl.out.symm).trans (rightTo_stop hpg.out (by rw [hre]; rfl)))
        replace hstop := hide hstop
        replace hre := hide hre
        go_wp2_with fail
        go_ret
        exact ⟨ret_bool hstop.out.symm, hb1.out.trans (hB2.out.mono hb1.out.size)⟩
      · replace hre := hide hre
        go_wp2_with fail
        refine (frag_any 0 0 0 false 0 0 false 0 0 _ j c 0 (es.take j) _ hxt2.out (by unfold maxLen; omega)).mono ?_
        rintro e w3 ⟨rfl, hb3'⟩
        rw [hf.out]
        have hB3 := hB2.out.trans (hb3'.mono hB2.out.size)
        clear hcg hb3'
        replace hB3 := hide hB3
        by_cases hf0 : 0 < f
        · have hstop := hryes.out.trans ((congrArg (rightTo (pes es)) hpl.out.symm).trans (rightTo_stop hpg.out (by rw [hre.out, hff.out]; simp; omega)))
          have hf0' : (0 : Int) < (f : Int) := by omega
          replace hstop := hide hstop
          go_wp2_with fail
          go_ret
          exact ⟨ret_bool hstop.out.symm, hb1.out.trans (hB3.out.mono hb1.out.size)⟩
        · have hnext : rightTo (pes es) (j + 1) = true := by rw [rightTo_succ _ _ _ hpg.out, hrt.out, hre.out, hff.out]; simp; omega
          have hf0' : ¬ (0 : Int) < (f : Int) := by omega
          replace hnext := hide hnext
          go_wp2_with fail
          exact ⟨⟨j + 1, by omega, by go_num, hnext.out, hB3.out⟩, by simp [intOf]; omega⟩
    · have hji : ¬ (j : Int) < (n : Int) := by omega
      obtain rfl : j = n := by omega
      have hres : r = true := hryes.out.trans hrt.out
      replace hxr := hide hxr
      replace hres := hide hres
      go_wp2_with fail
      go_ret
      exact ⟨ret_bool hres.out.symm, hb1.out.trans (hbr.out.mono hb1.out.size)⟩
end Six
end Go.Proofs.Ytfmmmjaficbchaa
/- The law's bytes of a header, those that extend it, and what is behind, by contract. Conditions: slices that read as lists, numbers as a header may have them. -/
namespace Go.Proofs.Ytfmmmjaficbchaa
open Go.RowKit Go.ChangeShapes Go.WideShapes Go.ChangeAt Go.Deep
theorem u8i {z : Int} {x : Nat} (h : z = (x : Int) % 256) : Value.int .u8 z = u8v (UInt8.ofNat x) := by rw [h, u8v_mod]
theorem list8 {α : Type} {a0 a1 a2 a3 a4 a5 a6 a7 b0 b1 b2 b3 b4 b5 b6 b7 : α} (h0 : a0 = b0) (h1 : a1 = b1) (h2 : a2 = b2) (h3 : a3 = b3) (h4 : a4 = b4) (h5 : a5 = b5) (h6 : a6 = b6) (h7 : a7 = b7) : [a0, a1, a2, a3, a4, a5, a6, a7] = [b0, b1, b2, b3, b4, b5, b6, b7] := by
  subst h0 h1 h2 h3 h4 h5 h6 h7; rfl
theorem drop_get {α : Type} {l : List α} {i : Nat} {e : α} (h : l[i]? = some e) : l.drop i = e :: l.drop (i + 1) := by
  obtain ⟨hl, rfl⟩ := List.getElem?_eq_some_iff.1 h
  exact List.drop_eq_getElem_cons hl
namespace Six
/-- A header's first eight bytes. -/
def hd8 (cls lab hop next T : Nat) : List UInt8 := [UInt8.ofNat (96 + cls / 16), UInt8.ofNat (cls % 16 * 16 + lab / 65536), UInt8.ofNat (lab / 256), UInt8.ofNat lab, UInt8.ofNat (T / 256), UInt8.ofNat T, UInt8.ofNat next, UInt8.ofNat hop]
/-- All of it. -/
def allB6 (cls lab hop shi slo dhi dlo proto : Nat) (es : List (Int × List UInt8)) (ps : List UInt8) : List UInt8 :=
  hd8 cls lab hop (nextP es proto).toNat (extB es proto ++ ps).length ++ addrB true shi slo ++ addrB true dhi dlo ++ (extB es proto ++ ps)
theorem sumP_le (es : List (Int × List UInt8)) (h : ∀ e ∈ es, e.2.length ≤ 2047) : sumP es ≤ es.length * 2048 := by
  induction es with
  | nil => simp [sumP]
  | cons e es ih =>
    have h1 := ih fun x hx => h x (by simp [hx])
    have h2 := h e (by simp)
    simp only [sumP, List.map_cons, List.sum_cons, List.length_cons] at h1 ⊢
    omega
end Six
end Go.Proofs.Ytfmmmjaficbchaa
/- six.Bytes of a header that may be, by contract. Conditions: slices that read as lists, numbers as a header may have them. -/
namespace Go.Proofs.Ytfmmmjaficbchaa
open Go.RowKit Go.ChangeShapes Go.WideShapes Go.ChangeAt Go.Deep
section
variable {Q : Exit → Act → World → Prop} {md : Region.Mode}
/-- append, as the one step of a region's tail. -/
theorem wpT_src (i : Nat) {L : List Oper} {o : Oper} {rest : List Oper} {fuel : Nat} {listed : Array Bool} {a : Act} {w : World} (hd : L.drop i = o :: rest) (hrd : Region.ready md L.toArray listed = [i]) (hgd : o.guard = none) (s x : Operand)
    (ho : o.op = .call { callee := .builtin .append, args := #[s, x], argTypes := #[22, 22] })
    (base : Nat) (v : Value) (xs ys : List UInt8) (A : Option Addr) (m c B : Nat) (hs : a.eval s = v) (hx : a.eval x = .slice A m c) (hown : OwnB w base v xs) (hr : IsB w B A m ys) (hbase : base ≤ w.heap.size) (hb : xs.length + m ≤ 1099511627776)
    (h : ∀ v' w', OwnB w' base v' (xs ++ ys) → Grew w v w' v' → wpAny Try.prog md L.toArray Q fuel (listed.setIfInBounds i true) (a.put o.dst v') w') : wpAny Try.prog md L.toArray Q (fuel + 1) listed a w := by
  refine wpT_step i hd hrd fun K hK => ?_
  have hw : Region.wanted o (yielded L.toArray a.tmps) = true := by unfold Region.wanted; rw [hgd]
  rw [if_pos hw]
  exact wp_src_bv s x ho base v xs ys A m c B hs hx hown hr hbase hb fun v' w' h1 h2 => hK _ _ (h v' w' h1 h2)
end
namespace Six
theorem sumL_pes (es : List Ext) : sumL es = sumP (pes es) := by
  unfold sumL sumP pes
  rw [List.map_map]
  rfl
theorem of8 {a b : Nat} (h : a % 256 = b % 256) : UInt8.ofNat a = UInt8.ofNat b := by
  apply UInt8.toNat.inj
  rw [UInt8.toNat_ofNat', UInt8.toNat_ofNat']
  exact h
theorem hd_eq (cls lab hop next T shi slo dhi dlo : Nat) (_h1 : cls ≤ 255) (h2 : lab ≤ 1048575) :
    beB (1610612736 + cls * 1048576 + lab) 4 ++ beB T 2 ++ [UInt8.ofNat next, UInt8.ofNat hop] ++ allB 8 [shi, slo, dhi, dlo] = hd8 cls lab hop next T ++ addrB true shi slo ++ addrB true dhi dlo := by
  have e : beB (1610612736 + cls * 1048576 + lab) 4 = [UInt8.ofNat (96 + cls / 16), UInt8.ofNat (cls % 16 * 16 + lab / 65536), UInt8.ofNat (lab / 256), UInt8.ofNat lab] := by
    simp only [beB, Nat.reducePow, Nat.div_one]
    rw [of8 (show (1610612736 + cls * 1048576 + lab) / 16777216 % 256 = (96 + cls / 16) % 256 by omega), of8 (show (1610612736 + cls * 1048576 + lab) / 65536 % 256 = (cls % 16 * 16 + lab / 65536) % 256 by omega),
      of8 (show (1610612736 + cls * 1048576 + lab) / 256 % 256 = (lab / 256) % 256 by omega), of8 (show (1610612736 + cls * 1048576 + lab) % 256 = lab % 256 by omega)]
  rw [e]
  simp [hd8, addrB, allB, beB]
theorem hd8_length (cls lab hop next T : Nat) : (hd8 cls lab hop next T).length = 8 := rfl
theorem allB6_length (cls lab hop shi slo dhi dlo proto : Nat) (es : List (Int × List UInt8)) (ps : List UInt8) : (allB6 cls lab hop shi slo dhi dlo proto es ps).length = 40 + sumP es + ps.length := by
  unfold allB6
  simp only [List.length_append, hd8_length, addrB, if_true, beB_length, extB_length]
  omega
set_option maxRecDepth 4000 in
set_option maxHeartbeats 4000000 in
theorem next_any (cls lab hop : Int) (sv : Bool) (shi slo : Int) (dv : Bool) (dhi dlo : Int) (X : Option Addr) (n c : Nat) (proto : Int) (es : List Ext) (i nx : Nat) (ii : Int) (hii : ii = (i : Int)) (w : World) (hx : IsX w w.heap.size X n es) (_hn : n ≤ maxLen) (hi : i ≤ n)
    (hnx : nextP ((pes es).drop i) proto = (nx : Int)) :
    Calls Try.prog 89 #[hdV cls lab hop sv shi slo dv dhi dlo X n c proto, .int .i64 ii] w fun e w' => e = .returned (.int .i64 (nx : Int)) ∧ Below w.heap.size w w' := by
  subst hii
  unfold maxLen at _hn
  have hbox := blk_new w 98 #[.int .i64 cls, .int .i64 lab, .int .i64 hop, .bool sv, .int .u64 shi, .int .u64 slo, .bool dv, .int .u64 dhi, .int .u64 dlo, .slice X n c, .int .i64 proto]
  obtain ⟨w1, hw1⟩ : ∃ w1, w.alloc (hdC cls lab hop sv shi slo dv dhi dlo X n c proto) = w1 := ⟨_, rfl⟩
  have hb1 : Below w.heap.size w w1 := hw1 ▸ (Below.refl _ _).alloc (Nat.le_refl _) _
  unfold hdC at hw1
  rw [hw1] at hbox
  have hcg := blk_cell hbox
  have hx1 := hx.on hb1
  have hpl : (pes es).length = n := by rw [pes_length]; exact hx.1
  replace hx := hide hx
  replace hb1 := hide hb1
  replace hbox := hide hbox
  replace hpl := hide hpl
  unfold hdV
  by_cases hlt : i < n
  · obtain ⟨b, off, k, Ae, ce, xs, rfl, hbl, hge, hc0, hc1, hbx, hxc, hxm⟩ := hx1.at hlt
    have hk : k = (nx : Int) := by
      rw [drop_get (pes_get hge)] at hnx
      exact hnx
    subst hk
    have hji : (i : Int) < (n : Int) := by omega
    have hj0 : (0 : Int) ≤ (i : Int) := by omega
    replace hx1 := hide hx1
    replace hnx := hide hnx
    replace hge := hide hge
    replace hbx := hide hbx
    go_enter Try.func89, Try.ntmps89
    go_wp2_with fail
    go_ret
    exact ⟨rfl, hb1.out⟩
  · have hk : proto = (nx : Int) := by
      rw [List.drop_of_length_le (by rw [hpl.out]; omega)] at hnx
      exact hnx
    subst hk
    have hji : ¬ (i : Int) < (n : Int) := by omega
    replace hx1 := hide hx1
    replace hnx := hide hnx
    go_enter Try.func89, Try.ntmps89
    go_wp2_with fail
    go_ret
    exact ⟨rfl, hb1.out⟩
theorem word6 (cls lab N : Nat) (h1 : cls ≤ 255) (h2 : lab ≤ 1048575) (hN : 1610612736 + cls * 1048576 + lab = N) : bits .or .u64 (bits .or .u64 1610612736 ((cls : Int) * 1048576)) (lab : Int) = (N : Int) := by
  have o1 : 1610612736 ||| cls * 1048576 = 1610612736 + cls * 1048576 := by
    have := Nat.two_pow_add_eq_or_of_lt (i := 28) (b := cls * 1048576) (by simp only [Nat.reducePow]; omega) 6
    simp only [Nat.reducePow, Nat.reduceMul] at this
    exact this.symm
  have o2 : (1610612736 + cls * 1048576) ||| lab = 1610612736 + cls * 1048576 + lab := by
    have := Nat.two_pow_add_eq_or_of_lt (i := 20) (b := lab) (by simp only [Nat.reducePow]; omega) (1536 + cls)
    simp only [Nat.reducePow] at this
    rw [show 1048576 * (1536 + cls) = 1610612736 + cls * 1048576 by omega] at this
    exact this.symm
  rw [show (1610612736 : Int) = ((1610612736 : Nat) : Int) from rfl, show (cls : Int) * 1048576 = ((cls * 1048576 : Nat) : Int) by simp, u64_or_nat _ _ (by omega) (by omega), o1, u64_or_nat _ _ (by omega) (by omega), o2, hN]
set_option maxRecDepth 20000 in
set_option maxHeartbeats 8000000 in
theorem bytes_any (cls lab hop : Nat) (sv : Bool) (shi slo : Nat) (dv : Bool) (dhi dlo : Nat) (X : Option Addr) (n c : Nat) (proto : Nat) (es : List Ext) (P : Option Addr) (m d : Nat) (ps : List UInt8) (w : World)
    (hx : IsX w w.heap.size X n es) (hnc : n ≤ c) (hcm : c ≤ maxLen) (hp : IsB w w.heap.size P m ps) (_hmd : m ≤ d) (_hdm : d ≤ maxLen) (hsv : sv = true) (hdv : dv = true)
    (b1 : cls ≤ 255) (b2 : lab ≤ 1048575) (b3 : hop ≤ 255) (b4 : proto ≤ 255) (b5 : shi < 18446744073709551616) (b6 : slo < 18446744073709551616) (b7 : dhi < 18446744073709551616) (b8 : dlo < 18446744073709551616)
    (hn : n ≤ 8) (hm : m ≤ 4096) (hk : ∀ e ∈ es, 0 ≤ e.k ∧ e.k ≤ 255) (hl : ∀ e ∈ es, e.xs.length ≤ 2047) (hr : rightHB cls lab hop sv dv proto (pes es) = true) :
    Calls Try.prog 68 #[hdV cls lab hop sv shi slo dv dhi dlo X n c proto, .slice P m d] w fun e w' => ∃ v, e = .returned (.tuple #[v, .int .i64 0]) ∧ OwnB w' w.heap.size v (allB6 cls lab hop shi slo dhi dlo proto (pes es) ps) ∧ Below w.heap.size w w' := by
  subst hsv hdv
  have hbox := blk_new w 98 #[.int .i64 cls, .int .i64 lab, .int .i64 hop, .bool true, .int .u64 shi, .int .u64 slo, .bool true, .int .u64 dhi, .int .u64 dlo, .slice X n c, .int .i64 proto]
  obtain ⟨w1, hw1⟩ : ∃ w1, w.alloc (hdC cls lab hop true shi slo true dhi dlo X n c proto) = w1 := ⟨_, rfl⟩
  have hb1 : Below w.heap.size w w1 := hw1 ▸ (Below.refl _ _).alloc (Nat.le_refl _) _
  have hlt1 : w.heap.size < w1.heap.size := by rw [← hw1]; simp
  unfold hdC at hw1
  rw [hw1] at hbox
  have hcg := blk_cell hbox
  have hx1 := hx.on hb1
  have hp1 := hp.on hb1
  have hpl : (pes es).length = n := by rw [pes_length]; exact hx.1
  have hpm := hp.1
  have hsum : sumP (pes es) ≤ 16384 := by
    have := sumP_le (pes es) (fun e he => by obtain ⟨e', he', rfl⟩ := List.mem_map.1 he; exact hl e' he')
    rw [hpl] at this
    omega
  obtain ⟨L0, hL0⟩ : ∃ L0, 40 + sumL es = L0 := ⟨_, rfl⟩
  have hL1 : 40 ≤ L0 := by omega
  have hL2 : L0 ≤ 16424 := by rw [← hL0, sumL_pes]; omega
  obtain ⟨T, hT⟩ : ∃ T, L0 - 40 + m = T := ⟨_, rfl⟩
  have hT1 : (extB (pes es) proto ++ ps).length = T := by rw [List.length_append, extB_length, ← sumL_pes, hpm]; omega
  obtain ⟨nx, hnx, hnx2⟩ : ∃ nx : Nat, nextP (pes es) proto = (nx : Int) ∧ nx ≤ 255 := by
    rcases es with _ | ⟨e, es⟩
    · exact ⟨proto, rfl, b4⟩
    · have := hk e (by simp)
      exact ⟨e.k.toNat, by show e.k = _; omega, by omega⟩
  have t1 : ¬ (65535 : Int) < (L0 : Int) - 40 + (m : Int) := by omega
  replace hx := hide hx
  replace hx1 := hide hx1
  replace hp := hide hp
  replace hp1 := hide hp1
  replace hb1 := hide hb1
  replace hbox := hide hbox
  replace hpl := hide hpl
  replace hk := hide hk
  replace hpm := hide hpm
  replace hsum := hide hsum
  replace hr := hide hr
  replace hL0 := hide hL0
  replace hT := hide hT
  replace hT1 := hide hT1
  replace hnx := hide hnx
  unfold hdV
  go_enter Try.func68, Try.ntmps68
  go_wp2_with fail
  refine (right_any cls lab hop true shi slo true dhi dlo X n c proto es _ hx1.out hnc hcm).mono ?_
  rw [hr.out]
  rintro e w2 ⟨rfl, hb2⟩
  have hg2 := blk_below hb2 hlt1 hbox.out
  have hB2 := hb1.out.trans (hb2.mono (Nat.le_of_lt hlt1))
  have hx2 := hx1.out.on hb2
  clear hcg hw1
  have hcg := blk_cell hg2
  have hlt2 := Nat.lt_of_lt_of_le hlt1 hb2.size
  replace hb2 := hide hb2
  replace hg2 := hide hg2
  replace hB2 := hide hB2
  replace hx2 := hide hx2
  go_wp2_with fail
  refine (len_any cls lab hop true shi slo true dhi dlo X n c proto es _ hx2.out hn hl L0 hL0.out).mono ?_
  rintro e w3 ⟨rfl, hb3⟩
  have hg3 := blk_below hb3 hlt2 hg2.out
  have hB3 := hB2.out.trans (hb3.mono (Nat.le_of_lt hlt2))
  have hx3 := hx2.out.on hb3
  clear hcg
  have hcg := blk_cell hg3
  have hlt3 := Nat.lt_of_lt_of_le hlt2 hb3.size
  replace hb3 := hide hb3
  replace hg3 := hide hg3
  replace hB3 := hide hB3
  replace hx3 := hide hx3
  obtain ⟨N, hN⟩ : ∃ N, 1610612736 + cls * 1048576 + lab = N := ⟨_, rfl⟩
  replace hN := hide hN
  go_wp2_with fail
  refine (put_lit _ _ N 4 ?e1 rfl w3.heap.size (.slice none 0 0) [] _ (OwnB.nil _ _) (Nat.le_refl _) (by have := hN.out; omega) (by omega) (by simp)).mono ?_
  case e1 => exact word6 cls lab N b1 b2 hN.out
  rintro e w4 ⟨v4, rfl, hown4, hg4⟩
  obtain ⟨B, hB⟩ : ∃ B, w3.heap.size = B := ⟨_, rfl⟩
  have hb4 := hg4.belowNil
  rw [hB] at hown4 hb4 hlt3
  have hxB := hx3.out
  have hpB := hp1.out.below (hb2.out.trans (hb3.out.mono hb2.out.size))
  rw [hB] at hxB
  have hpB := hpB.more (B' := B) (by have := hb2.out.size; have := hb3.out.size; omega)
  have hBx4 : Below B w3 w4 := hb4
  have hg4' := blk_below hBx4 hlt3 hg3.out
  have hx4 := (hxB.below hBx4).more (B' := w4.heap.size) (by have := hBx4.size; omega)
  have hz4 : B ≤ w4.heap.size := by have := hBx4.size; omega
  clear hcg hg4 hb4
  have hcg := blk_cell hg4'
  replace hown4 := hide hown4
  replace hBx4 := hide hBx4
  replace hg4' := hide hg4'
  replace hx4 := hide hx4
  replace hxB := hide hxB
  replace hpB := hide hpB
  replace hB := hide hB
  go_wp2_with fail
  refine (len_any cls lab hop true shi slo true dhi dlo X n c proto es _ hx4.out hn hl L0 hL0.out).mono ?_
  rintro e w5 ⟨rfl, hb5⟩
  have hBx5 := hBx4.out.trans (hb5.mono hz4)
  have hown5 := hown4.out.below hb5
  have hz5 : B ≤ w5.heap.size := Nat.le_trans hz4 hb5.size
  have hg5 := blk_below hBx5 hlt3 hg3.out
  clear hcg hb5
  have hcg := blk_cell hg5
  replace hown5 := hide hown5
  replace hBx5 := hide hBx5
  replace hg5 := hide hg5
  go_wp2_with fail
  refine (put_lit _ _ T 2 (by have := hT.out; omega) rfl B _ _ _ hown5.out hz5 (by have := hT.out; omega) (by omega) (by simp [beB_length])).mono ?_
  rintro e w6 ⟨v6, rfl, hown6, hg6⟩
  have hBx6 := hBx5.out.trans (hg6.below hown5.out hz5)
  have hz6 : B ≤ w6.heap.size := Nat.le_trans hz5 hg6.grown.size
  have hg6' := blk_below hBx6 hlt3 hg3.out
  have hlt6 : w.heap.size < w6.heap.size := by omega
  have hx6 := (hxB.out.below hBx6).more hz6
  have hcl := fun (l : Later w6) (o : Nat) => blk_cell (blk_below l.hb hlt6 hg6') o
  clear hcg hg6
  replace hown6 := hide hown6
  replace hBx6 := hide hBx6
  replace hg6' := hide hg6'
  replace hx6 := hide hx6
  go_wp2_with fail
  refine wp_region_L (by as_aux_lemma => kernel_rfl) ?_
  refine wpE_seg 0 7 (fuel := 3) (by as_aux_lemma => kernel_rfl) (fun d _ _ _ _ h => by cases d <;> exact h) (by as_aux_lemma => kernel_rfl) (by as_aux_lemma => kernel_rfl) ?_
  simp only [List.drop_zero, List.take_succ_cons, List.take_zero]
  iterate 2 (refine wpQE_step (fun K hK => ?_); go_simp; refine hK _ ?_; clear hK K)
  (refine wpQE_step (fun K hK => ?_); go_simp; apply Exists.intro; refine ⟨fun l => ?_, hK _ ?_⟩; (go_at_call 89; refine (next_any cls lab hop true shi slo true dhi dlo X n c proto es 0 nx _ rfl _ (hx6.out.later l) (by unfold maxLen; omega) (by omega) hnx.out).mono ?_; rintro e w' ⟨rfl, hb⟩; exact ⟨rfl, hb⟩); clear hK K)
  iterate 4 (refine wpQE_step (fun K hK => ?_); go_simp; refine hK _ ?_; clear hK K)
  refine wpQE_nil ?_
  have r1 : IntKind.u8.wrap (nx : Int) = (nx : Int) := wraps_u8 _ (by omega) (by omega)
  have r2 : IntKind.u8.wrap (hop : Int) = (hop : Int) := wraps_u8 _ (by omega) (by omega)
  rw [r1, r2]
  clear r1 r2 hcl
  refine wpE_step 7 (fuel := 2) rfl (by as_aux_lemma => kernel_rfl) (fun l K hK => ?_)
  go_simp
  have hzl := Nat.le_trans hz6 l.hb.size
  have hlit := OwnB.litv l.w l.w.heap.size [.int .u8 (nx : Int), .int .u8 (hop : Int)] [UInt8.ofNat nx, UInt8.ofNat hop] 2 (by simp only [List.map_cons, List.map_nil]; rw [u8v_nat _ (by omega), u8v_nat _ (by omega)]) rfl (Nat.le_refl _) (by omega)
  have hb7 : Below l.w.heap.size l.w (l.w.alloc (.cells [Value.int .u8 (nx : Int), .int .u8 (hop : Int)].toArray 5)) := (Below.refl _ _).alloc (Nat.le_refl _) _
  refine hK _ _ hb7 ?_
  clear hK K
  obtain ⟨w7, hw7⟩ : ∃ w7, l.w.alloc (.cells [Value.int .u8 (nx : Int), .int .u8 (hop : Int)].toArray 5) = w7 := ⟨_, rfl⟩
  rw [hw7] at hlit hb7
  rw [hw7]
  refine wpE_end (by as_aux_lemma => kernel_rfl) (fun l2 => ?_)
  have hBx8 := hBx6.out.trans ((l.hb.mono hz6).trans ((hb7.mono hzl).trans (l2.hb.mono (Nat.le_trans hzl hb7.size))))
  have hown8 := (hown6.out.below l.hb).below (hb7.trans (l2.hb.mono hb7.size))
  have hlit8 := (hlit.below l2.hb).reads.2.2.2
  have hz8 : B ≤ l2.w.heap.size := Nat.le_trans hz6 (Nat.le_trans l.hb.size (Nat.le_trans hb7.size l2.hb.size))
  refine wpT_src 8 rfl (by as_aux_lemma => kernel_rfl) rfl (.tmp 40) (.tmp 47) rfl B v6 _ _ _ _ _ _ rfl rfl hown8 hlit8 hz8 (by simp [beB_length]) fun v9 w9 hown9 hg9 => ?_
  refine wpT_step 9 rfl (by as_aux_lemma => kernel_rfl) (fun K hK => ?_)
  go_simp
  refine hK _ _ ?_
  clear hK K
  refine wpT_done (by as_aux_lemma => kernel_rfl) ?_ 0
  have hBx9 := hBx8.trans (hg9.below hown8 hz8)
  have hz9 : B ≤ w9.heap.size := Nat.le_trans hz8 hg9.grown.size
  have hg9' := blk_below hBx9 hlt3 hg3.out
  have hcg := blk_cell hg9'
  clear hg9 hown8 hlit8 hlit hb7 hw7 hBx8 hz8
  replace hown9 := hide hown9
  replace hBx9 := hide hBx9
  replace hg9' := hide hg9'
  go_wp2_with fail
  refine (all_lit B _ _ 8 _ rfl [shi, slo, dhi, dlo] _ rfl 4 _ rfl _ _ _ rfl hown9.out hz9 (by omega) (by simp [beB_length]) (by omega) ?_).mono ?_
  · intro N hN
    simp only [List.mem_cons, List.not_mem_nil, or_false] at hN
    omega
  rintro e w10 ⟨v10, rfl, hown10, hg10⟩
  have hBx10 := hBx9.out.trans (hg10.below hown9.out hz9)
  have hz10 : B ≤ w10.heap.size := Nat.le_trans hz9 hg10.grown.size
  obtain ⟨hb, hhb⟩ : ∃ hb, beB N 4 ++ beB T 2 ++ [UInt8.ofNat nx, UInt8.ofNat hop] ++ allB 8 [shi, slo, dhi, dlo] = hb := ⟨_, rfl⟩
  have hhl : hb.length = 40 := by rw [← hhb]; simp [beB_length, allB_length]
  have hown10' : OwnB w10 B v10 hb := by rw [← hhb]; simpa using hown10
  have hg10' := blk_below hBx10 hlt3 hg3.out
  clear hcg hg10 hown10
  have hcg := blk_cell hg10'
  replace hown10' := hide hown10'
  replace hBx10 := hide hBx10
  replace hg10' := hide hg10'
  replace hhb := hide hhb
  go_wp2_with fail
  clear hcg
  go_loopw [6, 67] (fun u i wr => ∃ (v : Value) (j : Nat) (ts : List UInt8), v = u ∧ j ≤ n ∧ i = .int .i64 (j : Int) ∧ ts ++ extB ((pes es).drop j) proto = extB (pes es) proto ∧ OwnB wr B u (hb ++ ts) ∧ Below B w3 wr) (fun _ i _ => n - (intOf i).toNat)
  case atStart => exact ⟨_, 0, [], rfl, Nat.zero_le _, rfl, by simp, by simpa using hown10'.out, hBx10.out⟩
  case round =>
    obtain ⟨v, j, ts, rfl, hj, rfl, hts, hu, hbr⟩ := hrel
    have htl : ts.length ≤ 16384 := by
      have h1 := congrArg List.length hts
      rw [List.length_append, extB_length (pes es)] at h1
      have := hsum.out
      omega
    have hzr : B ≤ wr.heap.size := by have := hbr.size; have := hB.out; omega
    have hgr := blk_below hbr hlt3 hg3.out
    have hxr := hxB.out.below hbr
    have hltr : w.heap.size < wr.heap.size := by omega
    by_cases hlt : j < n
    · obtain ⟨b, off, k, Ae, ce, xs, rfl, hbl, hge, hc0, hc1, hbx, hxc, hxm⟩ := hxr.at hlt
      have hpg := pes_get hge
      have hxl : xs.length ≤ 2047 := hl ⟨k, Ae, ce, xs⟩ (List.mem_of_getElem? hge)
      obtain ⟨nj, hnj, hnj2⟩ : ∃ nj : Nat, nextP ((pes es).drop (j + 1)) proto = (nj : Int) ∧ nj ≤ 255 := by
        rcases hd : (pes es).drop (j + 1) with _ | ⟨e, tl⟩
        · exact ⟨proto, rfl, b4⟩
        · have hm : e ∈ pes es := List.mem_of_mem_drop (hd ▸ List.mem_cons_self ..)
          obtain ⟨e', he', rfl⟩ := List.mem_map.1 hm
          have := hk.out e' he'
          exact ⟨e'.k.toNat, by show e'.k = _; omega, by omega⟩
      have hts2 : (ts ++ (UInt8.ofNat nj :: xs)) ++ extB ((pes es).drop (j + 1)) proto = extB (pes es) proto := by
        rw [← hts, drop_get hpg]
        simp [extB, hnj]
      have hji : (j : Int) < (n : Int) := by omega
      have hj0 : (0 : Int) ≤ (j : Int) := by omega
      have hcg := blk_cell hgr
      have hbw : Below wr.heap.size wr (wr.alloc (.cells #[.int .i64 k, .slice Ae xs.length ce] 121)) := (Below.refl _ _).alloc (Nat.le_refl _) _
      have hBw := hbr.trans (hbw.mono hzr)
      have hgw := blk_below hBw hlt3 hg3.out
      have hgx := blk_new wr 121 #[.int .i64 k, .slice Ae xs.length ce]
      have hxw := (hxB.out.below hBw).more (B' := (wr.alloc (.cells #[.int .i64 k, .slice Ae xs.length ce] 121)).heap.size) (by simp; omega)
      have huw := hu.below hbw
      have huw2 := hu
      have hlw : w.heap.size < (wr.alloc (.cells #[.int .i64 k, .slice Ae xs.length ce] 121)).heap.size := by simp; omega
      obtain ⟨wa, hwa⟩ : ∃ wa, wr.alloc (.cells #[.int .i64 k, .slice Ae xs.length ce] 121) = wa := ⟨_, rfl⟩
      have hlx : wr.heap.size < wa.heap.size := by rw [← hwa]; simp
      rw [hwa] at hbw hBw hgw hgx hxw huw hlw
      have hza : B ≤ wa.heap.size := by omega
      clear hge hu
      replace hts := hide hts
      replace hxr := hide hxr
      replace hpg := hide hpg
      replace hbx := hide hbx
      replace hgr := hide hgr
      replace hbr := hide hbr
      replace hbw := hide hbw
      replace hBw := hide hBw
      replace hgw := hide hgw
      replace hgx := hide hgx
      replace hxw := hide hxw
      replace huw := hide huw
      replace huw2 := hide huw2
      replace hnj := hide hnj
      replace hts2 := hide hts2
      replace hc0 := hide hc0
      replace hc1 := hide hc1
      have hc0' := hc0.out
      have hc1' := hc1.out
      go_wp2_with fail
      clear hcg hc0' hc1' hwa
      obtain ⟨row, hrow⟩ : ∃ row, Value.ownBlock v = row := ⟨_, rfl⟩
      have hug : ∀ k, row = some k → B ≤ k ∧ k < wa.heap.size := fun k e => huw.out.lt k (hrow.trans e)
      have hn1 : some w.heap.size ≠ row := fun e => by have := hug _ e.symm; omega
      have hn2 : some wr.heap.size ≠ row := fun e => by have := (huw2.out.lt _ (hrow.trans e.symm)).2; omega
      have hcl := fun (l : KeptW wa.heap.size row wa.drew) (o : Nat) => blk_cell (l.blk (show wa.drew.heap[w.heap.size]? = _ from hgw.out) hlw hn1) o
      have hcx := fun (l : KeptW wa.heap.size row wa.drew) (o : Nat) => blk_cell (l.blk (show wa.drew.heap[wr.heap.size]? = _ from hgx.out) hlx hn2) o
      have s1 : IntKind.i64.wrap ((j : Int) + 1) = ((j + 1 : Nat) : Int) := by rw [wraps62 _ (by omega) (by omega)]; omega
      refine wp_region_K wa.heap.size row (by as_aux_lemma => kernel_rfl) ?_
      refine wpK_seg wa.heap.size row 0 4 (fuel := 8) (by as_aux_lemma => kernel_rfl) (fun d _ _ _ _ h => by cases d <;> exact h) (by as_aux_lemma => kernel_rfl) (by as_aux_lemma => kernel_rfl) ?_
      simp only [List.drop_zero, List.take_succ_cons, List.take_zero]
      iterate 4 (refine wpQK_step (fun K hK => ?_); go_simp; refine hK _ ?_; clear hK K)
      refine wpQF_nil ?_
      refine wpK_seg wa.heap.size row 8 2 (fuel := 6) (by as_aux_lemma => kernel_rfl) (fun d _ _ _ _ h => by cases d <;> exact h) (by as_aux_lemma => kernel_rfl) (by as_aux_lemma => kernel_rfl) ?_
      simp only [List.drop_succ_cons, List.drop_zero, List.take_succ_cons, List.take_zero]
      iterate 2 (refine wpQK_step (fun K hK => ?_); go_simp; refine hK _ ?_; clear hK K)
      refine wpQF_nil ?_
      clear hcl hcx
      have hbd : Below wa.heap.size wa wa.drew := (Below.refl _ _).drew
      refine wpF_step 4 rfl (by as_aux_lemma => kernel_rfl) (fun K hK => ?_)
      go_simp
      go_at_call 89
      refine (next_any cls lab hop true shi slo true dhi dlo _ n c proto es (j + 1) nj _ (by omega) _ ((hxw.out.below hbd).more hbd.size) (by unfold maxLen; omega) (by omega) hnj.out).mono ?_
      rintro e w5 ⟨rfl, hb5⟩
      refine hK _ _ (kept_of_below hb5 (Nat.le_refl _)) ?_
      clear hK K
      have hb5' : Below wa.heap.size wa w5 := hbd.trans hb5
      have r1 : IntKind.u8.wrap (nj : Int) = (nj : Int) := wraps_u8 _ (by omega) (by omega)
      refine wpF_step 5 rfl (by as_aux_lemma => kernel_rfl) (fun K hK => ?_)
      go_simp
      refine hK _ _ (kept_refl _ _ _) ?_
      clear hK K
      clear r1 s1
      refine wpF_step 6 rfl (by as_aux_lemma => kernel_rfl) (fun K hK => ?_)
      go_simp
      have hz5 : wa.heap.size ≤ w5.heap.size := hb5'.size
      have hlit := OwnB.litv w5 w5.heap.size [.int .u8 (nj : Int)] [UInt8.ofNat nj] 1 (by simp only [List.map_cons, List.map_nil]; rw [u8v_nat _ (by omega)]) rfl (Nat.le_refl _) (by omega)
      have hb7 : Below w5.heap.size w5 (w5.alloc (.cells [Value.int .u8 (nj : Int)].toArray 5)) := (Below.refl _ _).alloc (Nat.le_refl _) _
      refine hK _ _ (kept_of_below hb7 hz5) ?_
      clear hK K
      obtain ⟨w7, hw7⟩ : ∃ w7, w5.alloc (.cells [Value.int .u8 (nj : Int)].toArray 5) = w7 := ⟨_, rfl⟩
      rw [hw7] at hlit hb7
      rw [hw7]
      have hb7' : Below wa.heap.size wa w7 := hb5'.trans (hb7.mono hz5)
      have hz7 : wa.heap.size ≤ w7.heap.size := hb7'.size
      have hown8 := huw.out.below hb7'
      have hlit8 := hlit.reads.2.2.2
      refine wpK_src 7 rfl (by as_aux_lemma => kernel_rfl) rfl (.tmp 72) (.tmp 78) rfl B v (hb ++ ts) _ _ _ _ _ rfl rfl hown8 hlit8 (by omega) (by rw [List.length_append]; omega) (.inl hrow) hz7 fun v9 w9 hown9 hg9 => ?_
      have hb9 := hg9.below hown8 (by omega)
      have hz9 := hg9.grown.size
      have hv9 := moved_row hg9 (.inl hrow) hz7
      have hbx9 := ((hbx.out.below (hbw.out.mono hzr)).below ((hb7'.mono hza).trans hb9))
      refine wpK_src 10 rfl (by as_aux_lemma => kernel_rfl) rfl (.tmp 79) (.tmp 81) rfl B v9 _ _ _ _ _ _ rfl rfl hown9 hbx9 (by omega) (by simp; omega) hv9 (by omega) fun v10 w10 hown10 hg10 => ?_
      have hb10 := hg10.below hown9 (by omega)
      have hBxe := hBw.out.trans ((hb7'.mono hza).trans (hb9.trans hb10))
      have howne : OwnB w10 B v10 (hb ++ (ts ++ (UInt8.ofNat nj :: xs))) := by simpa using hown10
      refine wpF_step 11 rfl (by as_aux_lemma => kernel_rfl) (fun K hK => ?_)
      go_simp
      refine hK _ _ (kept_refl _ _ _) ?_
      clear hK K
      refine wpF_done (by as_aux_lemma => kernel_rfl) ?_ 0
      clear hg9 hg10 hown8 hown9 hown10 hlit8 hlit hb7 hw7 hb7' hb9 hb10 hbx9 hb5 hb5' hbd hv9
      replace hBxe := hide hBxe
      replace howne := hide howne
      go_wp2_with fail
      exact ⟨⟨_, j + 1, ts ++ (UInt8.ofNat nj :: xs), rfl, by omega, by go_num, hts2.out, howne.out, hBxe.out⟩, by simp [intOf]; omega⟩
    · have hji : ¬ (j : Int) < (n : Int) := by omega
      obtain rfl : j = n := by omega
      have hpr := hpB.out.below hbr
      have hgr2 := blk_cell hgr
      have hen : ts = extB (pes es) proto := by
        rw [← hts, List.drop_of_length_le (by rw [hpl.out]; exact Nat.le_refl _)]
        simp [extB]
      have hpml : (hb ++ ts).length + m ≤ 1099511627776 := by rw [List.length_append]; omega
      replace hts := hide hts
      replace hxr := hide hxr
      replace hgr := hide hgr
      replace hu := hide hu
      replace hbr := hide hbr
      replace hpr := hide hpr
      replace hen := hide hen
      go_wp2_with (at_builtin; refine wpl_src_bv rfl (.tmp 84) (.tmp 85) rfl B _ _ ps P m d B rfl rfl hu.out hpr.out hzr hpml ?_)
      intro v11 w11 hown11 hg11
      have hBx11 := hbr.out.trans (hg11.below hu.out hzr)
      have hfin : (hb ++ ts) ++ ps = allB6 cls lab hop shi slo dhi dlo proto (pes es) ps := by
        unfold allB6
        rw [hen.out, hT1.out, hnx.out, ← hhb.out, show beB N 4 = beB (1610612736 + cls * 1048576 + lab) 4 by rw [hN.out], hd_eq cls lab hop nx T shi slo dhi dlo b1 b2]
        simp
      rw [← List.append_assoc, hfin] at hown11
      clear hg11
      replace hown11 := hide hown11
      replace hBx11 := hide hBx11
      go_wp2_with fail
      go_ret2
      exact ⟨_, rfl, hown11.out.weaken (by have := hlt3; omega), hB3.out.trans (hBx11.out.mono (by omega))⟩
end Six
end Go.Proofs.Ytfmmmjaficbchaa
