/- Plain words on headers that extend one: which may be, their bytes, and that bytes are read as them. No condition. -/
import Derived.Test.YtdmgbngdpjcliaaQPktBig9
import Derived.Test.YtdmgbngdpjcliaaQPktBig4
import Derived.Test.YtdmgbngdpjcliaaQPktBig10
namespace Go.Proofs.Ytdmgbngdpjcliaa
open Go.RowKit Go.ChangeShapes Go.WideShapes Go.ChangeAt Go.Deep
namespace Six
/-- May one extend at a place? -/
def rightExtB (k : Int) (at_ : Int) (xs : List UInt8) : Bool :=
  isB k && (!((k == 0) && decide (0 < at_)) && (decide (xs.length % 8 = 7) && (decide (xs.length ≤ 2047) && (if k = 44 then decide (xs.length = 7) else decide ((xs.getD 0 0).toNat = xs.length / 8)))))
/-- What comes next. -/
def nextP : List (Int × List UInt8) → Int → Int
  | [], p => p
  | e :: _, _ => e.1
/-- Their bytes. -/
def extB : List (Int × List UInt8) → Int → List UInt8
  | [], _ => []
  | e :: es, p => UInt8.ofNat (nextP es p).toNat :: (e.2 ++ extB es p)
def sumP (es : List (Int × List UInt8)) : Nat := (es.map fun e => e.2.length + 1).sum
theorem extB_length : ∀ (es : List (Int × List UInt8)) (p : Int), (extB es p).length = sumP es
  | [], _ => rfl
  | e :: es, p => by
    have := extB_length es p
    simp only [extB, List.length_cons, List.length_append, sumP, List.map_cons, List.sum_cons] at this ⊢
    omega
/-- May the first m be? -/
def rightTo (es : List (Int × List UInt8)) (m : Nat) : Bool :=
  (List.range m).all fun i => match es[i]? with
    | some e => rightExtB e.1 (i : Int) e.2 && decide (fragP (es.take i) = 0)
    | none => true
theorem rightTo_succ (es : List (Int × List UInt8)) (m : Nat) (e : Int × List UInt8) (h : es[m]? = some e) : rightTo es (m + 1) = (rightTo es m && (rightExtB e.1 (m : Int) e.2 && decide (fragP (es.take m) = 0))) := by
  unfold rightTo
  rw [List.range_succ, List.all_append]
  simp [h]
theorem rightTo_app (acc new : List (Int × List UInt8)) : ∀ m, m ≤ acc.length → rightTo (acc ++ new) m = rightTo acc m
  | 0, _ => rfl
  | m + 1, h => by
    have h1 : acc[m]? = some acc[m] := List.getElem?_eq_getElem (by omega)
    have h2 : (acc ++ new)[m]? = some acc[m] := by rw [List.getElem?_append_left (by omega), h1]
    rw [rightTo_succ _ m _ h1, rightTo_succ _ m _ h2, rightTo_app acc new m (by omega), List.take_append_of_le_length (by omega)]
theorem rightTo_le (es : List (Int × List UInt8)) {m k : Nat} (h : rightTo es m = true) (hk : k ≤ m) : rightTo es k = true := by
  unfold rightTo at *
  rw [List.all_eq_true] at *
  intro i hi
  exact h i (by rw [List.mem_range] at *; omega)
theorem cut_rs (rs : List UInt8) (size : Nat) (h1 : 1 ≤ size) (h2 : size ≤ rs.length) : rs = rs.getD 0 0 :: ((rs.take size).drop 1 ++ rs.drop size) := by
  obtain ⟨k, rfl⟩ : ∃ k, size = k + 1 := ⟨size - 1, by omega⟩
  cases rs with
  | nil => simp at h2
  | cons x t => simp
theorem frag_nil : fragP [] = 0 := rfl
/-- What comes up of a chain. -/
theorem chainF_sound : ∀ (f next : Nat) (rs : List UInt8) (acc acc' : List (Int × List UInt8)) (next' : Nat) (rest' : List UInt8), chainF f next rs acc = some (acc', next', rest') → rightTo acc acc.length = true → fragP acc = 0 → acc.length ≤ 8 → next ≤ 255 →
    ∃ new, acc' = acc ++ new ∧ nextP new (next' : Int) = (next : Int) ∧ rs = extB new (next' : Int) ++ rest' ∧ rightTo acc' acc'.length = true ∧ isB (next' : Int) = false ∧ next' ≤ 255 ∧ acc'.length ≤ 8
  := by
  intro f
  induction f with
  | zero => intro next rs acc acc' next' rest' h; simp [chainF] at h
  | succ f ih =>
    intro next rs acc acc' next' rest' h hr hf hl hn
    unfold chainF at h
    split at h
    · rename_i hb
      simp only [Option.some.injEq, Prod.mk.injEq] at h
      obtain ⟨rfl, rfl, rfl⟩ := h
      exact ⟨[], by simp, rfl, rfl, hr, hb, hn, hl⟩
    · rename_i hb
      split at h
      · cases h
      · rename_i h8
        split at h
        · cases h
        · rename_i hsz
          have hb' : isB (next : Int) = true := by simpa using hb
          obtain ⟨size, hs⟩ : ∃ size, sizeP next rs = size := ⟨_, rfl⟩
          rw [hs] at h hsz
          have hv : (rs.getD 1 0).toNat ≤ 255 := by have := (rs.getD 1 0).toNat_lt; omega
          have hs1 : 8 ≤ size := by rw [← hs]; unfold sizeP; split <;> omega
          have hcut := cut_rs rs size (by omega) (by omega)
          obtain ⟨e2, he2⟩ : ∃ e2, (rs.take size).drop 1 = e2 := ⟨_, rfl⟩
          rw [he2] at h hcut
          have he2l : e2.length = size - 1 := by rw [← he2, List.length_drop, List.length_take]; omega
          have he20 : e2.getD 0 0 = rs.getD 1 0 := by
            rw [← he2]
            simp only [List.getD, List.getElem?_drop, List.getElem?_take_of_lt (show 1 + 0 < size by omega)]
          have hre : rightExtB (next : Int) (acc.length : Int) e2 = true := by
            unfold rightExtB
            rw [hb', he2l, he20]
            have hz : (!(((next : Int) == 0) && decide ((0 : Int) < (acc.length : Int)))) = true := by
              by_cases h0 : next = 0
              · have : ¬ 0 < acc.length := fun h => hsz (.inr ⟨h0, h⟩)
                have h3 : ¬ ((0 : Int) < (acc.length : Int)) := by omega
                rw [decide_eq_false h3]
                simp
              · simp [h0]
            rw [hz]
            by_cases h44 : next = 44
            · have : size = 8 := by rw [← hs]; unfold sizeP; rw [if_pos h44]
              subst this
              rw [if_pos (by omega)]
              rfl
            · have : size = 8 + 8 * (rs.getD 1 0).toNat := by rw [← hs]; unfold sizeP; rw [if_neg h44]
              have h44' : ¬ (next : Int) = 44 := by omega
              simp only [if_neg h44', Bool.true_and]
              simp only [Bool.and_eq_true, decide_eq_true_eq]
              omega
          have hget : (acc ++ [((next : Int), e2)])[acc.length]? = some ((next : Int), e2) := by simp
          have hr1 : rightTo (acc ++ [((next : Int), e2)]) (acc ++ [((next : Int), e2)]).length = true := by
            rw [List.length_append, List.length_singleton, rightTo_succ _ _ _ hget, rightTo_app _ _ _ (Nat.le_refl _), hr, hre, List.take_left]
            simp [hf]
          have hl1 : (acc ++ [((next : Int), e2)]).length ≤ 8 := by
            simp only [List.length_append, List.length_singleton]; omega
          have hq : UInt8.ofNat (((rs.getD 0 0).toNat : Int)).toNat = rs.getD 0 0 := by simp
          have hq255 : (rs.getD 0 0).toNat ≤ 255 := by have := (rs.getD 0 0).toNat_lt; omega
          split at h
          · split at h
            · cases h
            · rename_i hb2
              simp only [Option.some.injEq, Prod.mk.injEq] at h
              obtain ⟨rfl, rfl, rfl⟩ := h
              refine ⟨[((next : Int), e2)], rfl, rfl, ?_, hr1, by simpa using hb2, hq255, hl1⟩
              simp only [extB, nextP, hq, List.append_nil]
              exact hcut
          · rename_i hfr
            obtain ⟨new, h1, h2, h3, h4⟩ := ih _ _ _ acc' next' rest' h hr1 (by omega) hl1 hq255
            refine ⟨((next : Int), e2) :: new, by rw [h1]; simp, rfl, ?_, h4⟩
            simp only [extB, h2, hq, List.cons_append, List.append_assoc]
            rw [← h3]
            exact hcut
/-- What was put is read again. -/
theorem chainF_back (p : Int) (pl : List UInt8) (hp0 : 0 ≤ p) (hp : p ≤ 255) (hb : isB p = false) : ∀ (es acc : List (Int × List UInt8)) (f : Nat), rightTo (acc ++ es) (acc ++ es).length = true → (acc ++ es).length ≤ 8 → (fragP acc = 0 ∨ es = []) → es.length + 1 ≤ f →
    (fragP acc = 0) → chainF f (nextP es p).toNat (extB es p ++ pl) acc = some (acc ++ es, p.toNat, pl)
  := by
  intro es
  induction es with
  | nil =>
    intro acc f _ _ _ hf _
    obtain ⟨f, rfl⟩ : ∃ f', f = f' + 1 := ⟨f - 1, by simp at hf; omega⟩
    have hpt : ((p.toNat : Nat) : Int) = p := by omega
    unfold chainF
    simp only [nextP, hpt, hb, if_true, extB, List.nil_append, List.append_nil]
  | cons e es ih =>
    obtain ⟨k, d⟩ := e
    intro acc f hr hl _ hf hfr
    obtain ⟨f, rfl⟩ : ∃ f', f = f' + 1 := ⟨f - 1, by simp at hf; omega⟩
    have hget : (acc ++ (k, d) :: es)[acc.length]? = some (k, d) := by simp
    have hr1 := rightTo_le _ hr (k := acc.length + 1) (by simp)
    rw [rightTo_succ _ _ _ hget] at hr1
    simp only [Bool.and_eq_true, decide_eq_true_eq] at hr1
    have hre := hr1.2.1
    unfold rightExtB at hre
    simp only [Bool.and_eq_true] at hre
    obtain ⟨hk, hz, h7, h47, hd0⟩ := hre
    have hkn : 0 ≤ k ∧ k ≤ 60 := by
      unfold isB at hk
      simp only [decide_eq_true_eq] at hk
      omega
    have hkt : ((k.toNat : Nat) : Int) = k := by omega
    simp only [decide_eq_true_eq] at h7 h47
    have hal : acc.length ≤ 7 := by simp at hl; omega
    obtain ⟨nx, hnx⟩ : ∃ nx, nextP es p = nx := ⟨_, rfl⟩
    have hnx2 : 0 ≤ nx ∧ nx ≤ 255 := by
      rw [← hnx]
      cases es with
      | nil => exact ⟨hp0, hp⟩
      | cons e2 es2 =>
        have hget2 : (acc ++ (k, d) :: e2 :: es2)[acc.length + 1]? = some e2 := by
          rw [List.getElem?_append_right (by omega)]; simp
        have hr2 := rightTo_le _ hr (k := acc.length + 1 + 1) (by simp; omega)
        rw [rightTo_succ _ _ _ hget2] at hr2
        simp only [Bool.and_eq_true] at hr2
        have h3 := hr2.2.1
        unfold rightExtB at h3
        simp only [Bool.and_eq_true] at h3
        have h4 := h3.1
        unfold isB at h4
        simp only [decide_eq_true_eq] at h4
        show 0 ≤ e2.1 ∧ e2.1 ≤ 255
        omega
    have hrs0 : (extB ((k, d) :: es) p ++ pl).getD 0 0 = UInt8.ofNat nx.toNat := by simp [extB, hnx]
    have hn8 : (UInt8.ofNat nx.toNat).toNat = nx.toNat := by rw [UInt8.toNat_ofNat']; omega
    have hlen : (extB ((k, d) :: es) p ++ pl).length = d.length + 1 + ((extB es p).length + pl.length) := by
      simp [extB]; omega
    have hrs1 : 0 < d.length → (extB ((k, d) :: es) p ++ pl).getD 1 0 = d.getD 0 0 := by
      intro h
      cases d with
      | nil => simp at h
      | cons x t => simp [extB]
    have hsize : sizeP k.toNat (extB ((k, d) :: es) p ++ pl) = d.length + 1 := by
      unfold sizeP
      by_cases h44 : k = 44
      · subst h44
        simp only [if_true, decide_eq_true_eq] at hd0
        rw [if_pos (by rfl)]
        omega
      · rw [if_neg h44] at hd0
        simp only [decide_eq_true_eq] at hd0
        rw [if_neg (by omega), hrs1 (by omega), hd0]
        omega
    have htake : ((extB ((k, d) :: es) p ++ pl).take (d.length + 1)).drop 1 = d := by simp [extB]
    have hdrop : (extB ((k, d) :: es) p ++ pl).drop (d.length + 1) = extB es p ++ pl := by simp [extB]
    unfold chainF
    simp only [nextP, hkt, hk, hsize, htake, hdrop, hrs0, hn8]
    rw [if_neg (by simp), if_neg (by omega), if_neg ?_]
    · by_cases hff : 0 < fragP (acc ++ [(k, d)])
      · have hes : es = [] := by
          cases es with
          | nil => rfl
          | cons e2 es2 =>
            exfalso
            have hget2 : (acc ++ (k, d) :: e2 :: es2)[acc.length + 1]? = some e2 := by
              rw [List.getElem?_append_right (by omega)]; simp
            have hr2 := rightTo_le _ hr (k := acc.length + 1 + 1) (by simp; omega)
            rw [rightTo_succ _ _ _ hget2] at hr2
            simp only [Bool.and_eq_true, decide_eq_true_eq] at hr2
            have h3 := hr2.2.2
            rw [show acc ++ (k, d) :: e2 :: es2 = (acc ++ [(k, d)]) ++ (e2 :: es2) by simp, show acc.length + 1 = (acc ++ [(k, d)]).length by simp, List.take_left] at h3
            omega
        subst hes
        simp only [nextP] at hnx
        subst hnx
        have hpt : ((p.toNat : Nat) : Int) = p := by omega
        rw [if_pos hff, hpt, hb]
        simp [extB]
      · rw [if_neg hff]
        have h5 := ih (acc ++ [(k, d)]) f (by simpa using hr) (by simpa using hl) (.inl (by omega)) (by simp at hf; omega) (by omega)
        rw [hnx] at h5
        rw [h5]
        simp
    · rintro (h | ⟨h0, h1⟩)
      · omega
      · have : k = 0 := by omega
        subst this
        have h1' : (0 : Int) < (acc.length : Int) := by omega
        rw [decide_eq_true h1'] at hz
        cases hz
end Six
end Go.Proofs.Ytdmgbngdpjcliaa
/- six.RightExt and the law's rightExt by contract. Conditions: slices of bytes that read as lists. -/
namespace Go.Proofs.Ytdmgbngdpjcliaa
open Go.RowKit Go.ChangeShapes Go.WideShapes Go.ChangeAt Go.Deep
namespace Six
theorem rightExtB_no {k at_ : Int} {xs : List UInt8} {n : Nat} (hl : xs.length = n) (h : ¬ (isB k = true ∧ n % 8 = 7)) : rightExtB k at_ xs = false := by
  unfold rightExtB
  rw [hl]
  rcases hk : isB k with _ | _
  · rfl
  · have : ¬ n % 8 = 7 := fun h2 => h ⟨hk, h2⟩
    simp [this]
theorem rightExtB_as {k at_ : Int} {xs : List UInt8} {n v0 q : Nat} (hl : xs.length = n) (hk : isB k = true) (h8 : n % 8 = 7) (hv : (xs.getD 0 0).toNat = v0) (hq : n / 8 = q) :
    rightExtB k at_ xs = decide (¬ (k = 0 ∧ 0 < at_) ∧ n ≤ 2047 ∧ (k = 44 → n = 7) ∧ (k ≠ 44 → v0 = q)) := by
  unfold rightExtB
  rw [hl, hk, hv, hq, Bool.eq_iff_iff, decide_eq_true_iff]
  by_cases h44 : k = 44
  · simp [h44, h8]
  · by_cases h0 : k = 0 <;> simp [h44, h8, h0]
set_option maxRecDepth 4000 in
set_option maxHeartbeats 4000000 in
theorem rightExt_any (k at_ : Int) (A : Option Addr) (n c : Nat) (xs : List UInt8) (w : World) (hx : IsB w w.heap.size A n xs) (hn : n ≤ maxLen) :
    Calls Try.prog 94 #[.agg #[.int .i64 k, .slice A n c], .int .i64 at_] w fun e w' => e = .returned (.bool (rightExtB k at_ xs)) ∧ Below w.heap.size w w' := by
  unfold maxLen at hn
  obtain ⟨r, hr⟩ : ∃ r, rightExtB k at_ xs = r := ⟨_, rfl⟩
  rw [hr]
  have hxl := hx.1
  have hbox := blk_new w 73 #[.int .i64 k, .slice A n c]
  obtain ⟨w1, hw1⟩ : ∃ w1, w.alloc (.cells #[.int .i64 k, .slice A n c] 73) = w1 := ⟨_, rfl⟩
  have hbb : Below w.heap.size w w1 := hw1 ▸ (Below.refl _ _).alloc (Nat.le_refl _) _
  have hlt : w.heap.size < w1.heap.size := by rw [← hw1]; simp
  rw [hw1] at hbox
  have hcg := blk_cell hbox
  have hx1 := hx.on hbb
  replace hx := hide hx
  replace hbb := hide hbb
  replace hbox := hide hbox
  by_cases h8 : n % 8 = 7
  · have m7 : ((n : Int) % 8 != 7) = false := by rw [bne_eq_false_iff_eq]; omega
    obtain ⟨b, off, v0, rfl, hbl, hv0, hv0l, hc0⟩ := hx1.byte (i := 0) (by omega)
    rw [Nat.add_zero] at hc0
    obtain ⟨q, hq⟩ : ∃ q, n / 8 = q := ⟨_, rfl⟩
    have s1 : (n : Int).tdiv 8 = (q : Int) := by rw [Int.tdiv_eq_ediv_of_nonneg (by omega)]; omega
    have s1' : (n : Int) / 8 = (q : Int) := by omega
    have s2 : IntKind.i64.wrap (q : Int) = (q : Int) := wraps62 _ (by omega) (by omega)
    have s3 : IntKind.i64.wrap (v0 : Int) = (v0 : Int) := wraps62 _ (by omega) (by omega)
    have i0 : (0 : Int) < (n : Int) := by omega
    have j0 : 0 < n := by omega
    have hd0 := fun l : Later w1 => l.cell hc0
    have hcl := fun (l : Later w1) (o : Nat) => blk_cell (blk_below l.hb hlt hbox.out) o
    have hp := fun hk => hr.symm.trans (rightExtB_as (k := k) (at_ := at_) hxl hk h8 hv0 hq)
    clear hc0
    replace hv0 := hide hv0
    replace hq := hide hq
    replace hx1 := hide hx1
    replace h8 := hide h8
    replace hxl := hide hxl
    replace hp := hide hp
    replace hr := hide hr
    go_enter Try.func94, Try.ntmps94
    go_wp2_with fail
    refine (is_any k _).mono ?_
    rintro e w' ⟨rfl, rfl⟩
    clear hw1
    rcases hk : isB k with _ | _
    · have hno := hr.out.symm.trans <| rightExtB_no (k := k) (at_ := at_) hxl.out (fun h => by rw [hk] at h; cases h.1)
      replace hk := hide hk
      replace hno := hide hno
      go_wp2_with fail
      go_ret
      exact ⟨ret_bool hno.out.symm, hbb.out⟩
    · replace hp := hide (hp.out hk)
      replace hk := hide hk
      go_wp2_with fail
      all_goals (try (go_ret; exact ⟨ret_bool (by rw [hp.out]; first | exact (decide_eq_false (by omega)).symm | (rw [Bool.eq_iff_iff, beq_iff_eq, decide_eq_true_iff]; (first | omega | (have h44 := ‹(k == 44) = true›; simp only [beq_iff_eq] at h44; omega) | (have h44 := ‹(k == 44) = false›; simp only [beq_eq_false_iff_ne, ne_eq] at h44; omega)))), hbb.out⟩))
      all_goals
        clear hcg
        refine wp_region_L (by as_aux_lemma => kernel_rfl) ?_
        refine wpE_seg 0 11 (fuel := 0) (by as_aux_lemma => kernel_rfl) (fun d _ _ _ _ h => by cases d <;> exact h) (by as_aux_lemma => kernel_rfl) (by as_aux_lemma => kernel_rfl) ?_
        simp only [List.drop_zero, List.take_succ_cons, List.take_zero]
        iterate 11 (refine wpQE_step (fun K hK => ?_); go_simp; refine hK _ ?_; clear hK K)
        refine wpQE_nil ?_
        refine wpE_done (by as_aux_lemma => kernel_rfl) (fun w3 hb3 => ?_) 0
        have hb03 := hbb.out.trans (hb3.mono (Nat.le_of_lt hlt))
        clear hb3 hcl hd0
        replace hb03 := hide hb03
        go_wp2_with fail
        go_ret
        exact ⟨ret_bool (by rw [hp.out, Bool.eq_iff_iff, beq_iff_eq, decide_eq_true_iff]; (first | omega | (have h44 := ‹(k == 44) = true›; simp only [beq_iff_eq] at h44; omega) | (have h44 := ‹(k == 44) = false›; simp only [beq_eq_false_iff_ne, ne_eq] at h44; omega))), hb03.out⟩
  · have m7 : ((n : Int) % 8 != 7) = true := by rw [bne_iff_ne]; omega
    have hno := hr.symm.trans <| rightExtB_no (k := k) (at_ := at_) hxl (fun h => h8 h.2)
    replace hx1 := hide hx1
    replace h8 := hide h8
    replace hxl := hide hxl
    replace hno := hide hno
    replace hr := hide hr
    go_enter Try.func94, Try.ntmps94
    go_wp2_with fail
    refine (is_any k _).mono ?_
    rintro e w' ⟨rfl, rfl⟩
    clear hw1
    rcases hk : isB k with _ | _
    all_goals
      replace hk := hide hk
      go_wp2_with fail
      all_goals (go_ret; exact ⟨ret_bool hno.out.symm, hbb.out⟩)
set_option maxRecDepth 4000 in
set_option maxHeartbeats 4000000 in
theorem lawRightExt_any (k at_ : Int) (A : Option Addr) (n c : Nat) (xs : List UInt8) (w : World) (hx : IsB w w.heap.size A n xs) (hn : n ≤ maxLen) :
    Calls Try.prog 44 #[.agg #[.int .i64 k, .slice A n c], .int .i64 at_] w fun e w' => e = .returned (.bool (rightExtB k at_ xs)) ∧ Below w.heap.size w w' := by
  unfold maxLen at hn
  obtain ⟨r, hr⟩ : ∃ r, rightExtB k at_ xs = r := ⟨_, rfl⟩
  rw [hr]
  have hxl := hx.1
  have hbox := blk_new w 73 #[.int .i64 k, .slice A n c]
  obtain ⟨w1, hw1⟩ : ∃ w1, w.alloc (.cells #[.int .i64 k, .slice A n c] 73) = w1 := ⟨_, rfl⟩
  have hbb : Below w.heap.size w w1 := hw1 ▸ (Below.refl _ _).alloc (Nat.le_refl _) _
  have hlt : w.heap.size < w1.heap.size := by rw [← hw1]; simp
  rw [hw1] at hbox
  have hcg := blk_cell hbox
  have hx1 := hx.on hbb
  replace hx := hide hx
  replace hbb := hide hbb
  replace hbox := hide hbox
  by_cases h8 : n % 8 = 7
  · have m7 : ((n : Int) % 8 != 7) = false := by rw [bne_eq_false_iff_eq]; omega
    obtain ⟨b, off, v0, rfl, hbl, hv0, hv0l, hc0⟩ := hx1.byte (i := 0) (by omega)
    rw [Nat.add_zero] at hc0
    obtain ⟨q, hq⟩ : ∃ q, n / 8 = q := ⟨_, rfl⟩
    have s1 : (n : Int).tdiv 8 = (q : Int) := by rw [Int.tdiv_eq_ediv_of_nonneg (by omega)]; omega
    have s1' : (n : Int) / 8 = (q : Int) := by omega
    have s2 : IntKind.i64.wrap (q : Int) = (q : Int) := wraps62 _ (by omega) (by omega)
    have s3 : IntKind.i64.wrap (v0 : Int) = (v0 : Int) := wraps62 _ (by omega) (by omega)
    have i0 : (0 : Int) < (n : Int) := by omega
    have j0 : 0 < n := by omega
    have hd0 := fun l : Later w1 => l.cell hc0
    have hcl := fun (l : Later w1) (o : Nat) => blk_cell (blk_below l.hb hlt hbox.out) o
    have hp := fun hk => hr.symm.trans (rightExtB_as (k := k) (at_ := at_) hxl hk h8 hv0 hq)
    clear hc0
    replace hv0 := hide hv0
    replace hq := hide hq
    replace hx1 := hide hx1
    replace h8 := hide h8
    replace hxl := hide hxl
    replace hp := hide hp
    replace hr := hide hr
    go_enter Try.func44, Try.ntmps44
    go_wp2_with fail
    refine (lawIs_any k _).mono ?_
    rintro e w' ⟨rfl, rfl⟩
    clear hw1
    rcases hk : isB k with _ | _
    · have hno := hr.out.symm.trans <| rightExtB_no (k := k) (at_ := at_) hxl.out (fun h => by rw [hk] at h; cases h.1)
      replace hk := hide hk
      replace hno := hide hno
      go_wp2_with fail
      go_ret
      exact ⟨ret_bool hno.out.symm, hbb.out⟩
    · replace hp := hide (hp.out hk)
      replace hk := hide hk
      go_wp2_with fail
      all_goals (try (go_ret; exact ⟨ret_bool (by rw [hp.out]; first | exact (decide_eq_false (by omega)).symm | (rw [Bool.eq_iff_iff, beq_iff_eq, decide_eq_true_iff]; (first | omega | (have h44 := ‹(k == 44) = true›; simp only [beq_iff_eq] at h44; omega) | (have h44 := ‹(k == 44) = false›; simp only [beq_eq_false_iff_ne, ne_eq] at h44; omega)))), hbb.out⟩))
      all_goals
        clear hcg
        refine wp_region_L (by as_aux_lemma => kernel_rfl) ?_
        refine wpE_seg 0 11 (fuel := 0) (by as_aux_lemma => kernel_rfl) (fun d _ _ _ _ h => by cases d <;> exact h) (by as_aux_lemma => kernel_rfl) (by as_aux_lemma => kernel_rfl) ?_
        simp only [List.drop_zero, List.take_succ_cons, List.take_zero]
        iterate 11 (refine wpQE_step (fun K hK => ?_); go_simp; refine hK _ ?_; clear hK K)
        refine wpQE_nil ?_
        refine wpE_done (by as_aux_lemma => kernel_rfl) (fun w3 hb3 => ?_) 0
        have hb03 := hbb.out.trans (hb3.mono (Nat.le_of_lt hlt))
        clear hb3 hcl hd0
        replace hb03 := hide hb03
        go_wp2_with fail
        go_ret
        exact ⟨ret_bool (by rw [hp.out, Bool.eq_iff_iff, beq_iff_eq, decide_eq_true_iff]; (first | omega | (have h44 := ‹(k == 44) = true›; simp only [beq_iff_eq] at h44; omega) | (have h44 := ‹(k == 44) = false›; simp only [beq_eq_false_iff_ne, ne_eq] at h44; omega))), hb03.out⟩
  · have m7 : ((n : Int) % 8 != 7) = true := by rw [bne_iff_ne]; omega
    have hno := hr.symm.trans <| rightExtB_no (k := k) (at_ := at_) hxl (fun h => h8 h.2)
    replace hx1 := hide hx1
    replace h8 := hide h8
    replace hxl := hide hxl
    replace hno := hide hno
    replace hr := hide hr
    go_enter Try.func44, Try.ntmps44
    go_wp2_with fail
    refine (lawIs_any k _).mono ?_
    rintro e w' ⟨rfl, rfl⟩
    clear hw1
    rcases hk : isB k with _ | _
    all_goals
      replace hk := hide hk
      go_wp2_with fail
      all_goals (go_ret; exact ⟨ret_bool hno.out.symm, hbb.out⟩)
end Six
end Go.Proofs.Ytdmgbngdpjcliaa
/- six.Right and the law's right by contract: which headers may be. Conditions: slices that read as lists. -/
namespace Go.Proofs.Ytdmgbngdpjcliaa
open Go.RowKit Go.ChangeShapes Go.WideShapes Go.ChangeAt Go.Deep
namespace Six
theorem IsX.take {w : World} {B n m : Nat} {A : Option Addr} {es : List Ext} (h : IsX w B A n es) (hm : m ≤ n) : IsX w B A m (es.take m) := by
  obtain ⟨hl, hv, hp⟩ := h
  refine ⟨by rw [List.length_take]; omega, ⟨by rw [cells_length, List.length_take]; omega, fun h0 => ?_⟩, fun e he => hp e (List.mem_of_mem_take he)⟩
  obtain ⟨b, off, e, hb, hc⟩ := hv.2 (by omega)
  refine ⟨b, off, e, hb, fun i hi => ?_⟩
  have h1 : cells es = cells (es.take m) ++ cells (es.drop m) := by
    unfold cells
    rw [← List.flatMap_append, List.take_append_drop]
  have hl2 : (cells (es.take m)).length = m * 2 := by rw [cells_length, List.length_take]; omega
  have hpre : cells (es.take m) = (cells es).take (m * 2) := by rw [h1, ← hl2, List.take_left]
  have hi2 : i < (cells es).length := by rw [cells_length]; rw [cells_length, List.length_take] at hi; omega
  rw [hc i hi2]
  simp [hpre, List.getElem_take]
def pes (es : List Ext) : List (Int × List UInt8) := es.map Ext.pe
theorem pes_length (es : List Ext) : (pes es).length = es.length := by simp [pes]
theorem pes_take (es : List Ext) (m : Nat) : pes (es.take m) = (pes es).take m := by simp [pes, List.map_take]
theorem pes_get {es : List Ext} {i : Nat} {e : Ext} (h : es[i]? = some e) : (pes es)[i]? = some (e.k, e.xs) := by simp [pes, h, Ext.pe]
theorem pes_frag (es : List Ext) : beN (partB es) 1 2 / 8 = fragP (pes es) := by rw [partB_eq]; rfl
/-- May a header be? -/
def rightHB (cls lab hop : Int) (sv dv : Bool) (proto : Int) (es : List (Int × List UInt8)) : Bool :=
  decide (0 ≤ cls ∧ cls ≤ 255 ∧ 0 ≤ hop ∧ hop ≤ 255 ∧ 0 ≤ lab ∧ lab ≤ 1048575 ∧ sv = true ∧ dv = true ∧ 0 ≤ proto ∧ proto ≤ 255 ∧ isB proto = false ∧ es.length ≤ 8) && rightTo es es.length
theorem rightHB_no {cls lab hop : Int} {sv dv : Bool} {proto : Int} {es : List (Int × List UInt8)}
    (h : ¬ (0 ≤ cls ∧ cls ≤ 255 ∧ 0 ≤ hop ∧ hop ≤ 255 ∧ 0 ≤ lab ∧ lab ≤ 1048575 ∧ sv = true ∧ dv = true ∧ 0 ≤ proto ∧ proto ≤ 255 ∧ isB proto = false ∧ es.length ≤ 8)) : rightHB cls lab hop sv dv proto es = false := by
  unfold rightHB
  rw [decide_eq_false h]
  rfl
theorem rightHB_yes {cls lab hop : Int} {sv dv : Bool} {proto : Int} {es : List (Int × List UInt8)}
    (h : 0 ≤ cls ∧ cls ≤ 255 ∧ 0 ≤ hop ∧ hop ≤ 255 ∧ 0 ≤ lab ∧ lab ≤ 1048575 ∧ sv = true ∧ dv = true ∧ 0 ≤ proto ∧ proto ≤ 255 ∧ isB proto = false ∧ es.length ≤ 8) : rightHB cls lab hop sv dv proto es = rightTo es es.length := by
  unfold rightHB
  rw [decide_eq_true h]
  rfl
theorem rightTo_stop {es : List (Int × List UInt8)} {m : Nat} {e : Int × List UInt8} (h : es[m]? = some e) (hn : (rightExtB e.1 (m : Int) e.2 && decide (fragP (es.take m) = 0)) = false) : rightTo es es.length = false := by
  rcases hr : rightTo es es.length with _ | _
  · rfl
  · have hl := (List.getElem?_eq_some_iff.1 h).1
    have h1 := rightTo_le es hr (k := m + 1) (by omega)
    rw [rightTo_succ es m e h, hn] at h1
    simp at h1
set_option maxRecDepth 4000 in
set_option maxHeartbeats 8000000 in
theorem lawRight_any (cls lab hop : Int) (sv : Bool) (shi slo : Int) (dv : Bool) (dhi dlo : Int) (X : Option Addr) (n c : Nat) (proto : Int) (es : List Ext) (w : World) (hx : IsX w w.heap.size X n es) (hnc : n ≤ c) (hcm : c ≤ maxLen) :
    Calls Try.prog 17 #[hdV cls lab hop sv shi slo dv dhi dlo X n c proto] w fun e w' => e = .returned (.bool (rightHB cls lab hop sv dv proto (pes es))) ∧ Below w.heap.size w w' := by
  obtain ⟨r, hr⟩ : ∃ r, rightHB cls lab hop sv dv proto (pes es) = r := ⟨_, rfl⟩
  rw [hr]
  unfold maxLen at hcm
  have hbox := blk_new w 29 #[.int .i64 cls, .int .i64 lab, .int .i64 hop, .bool sv, .int .u64 shi, .int .u64 slo, .bool dv, .int .u64 dhi, .int .u64 dlo, .slice X n c, .int .i64 proto]
  obtain ⟨w1, hw1⟩ : ∃ w1, w.alloc (hdC cls lab hop sv shi slo dv dhi dlo X n c proto) = w1 := ⟨_, rfl⟩
  have hb1 : Below w.heap.size w w1 := hw1 ▸ (Below.refl _ _).alloc (Nat.le_refl _) _
  have hlt1 : w.heap.size < w1.heap.size := by rw [← hw1]; simp
  unfold hdC at hw1
  rw [hw1] at hbox
  have hcg := blk_cell hbox
  have hx1 := hx.on hb1
  have hpl : (pes es).length = n := by rw [pes_length]; exact hx.1
  replace hx := hide hx
  replace hx1 := hide hx1
  replace hb1 := hide hb1
  replace hbox := hide hbox
  replace hpl := hide hpl
  replace hr := hide hr
  unfold hdV
  go_enter Try.func17, Try.ntmps17
  go_wp2_with fail
  all_goals (try (go_ret; refine ⟨ret_bool (hr.out.symm.trans (rightHB_no ?_)).symm, hb1.out⟩; intro hh; first | omega | simp_all))
  refine (lawIs_any proto _).mono ?_
  rintro e w' ⟨rfl, rfl⟩
  clear hw1
  rcases hk : isB proto with _ | _
  case true =>
    replace hk := hide hk
    go_wp2_with fail
    go_ret
    refine ⟨ret_bool (hr.out.symm.trans (rightHB_no ?_)).symm, hb1.out⟩
    intro hh
    rw [hk.out] at hh
    simp at hh
  replace hk := hide hk
  by_cases h8 : n ≤ 8
  case neg =>
    have h8' : (8 : Int) < (n : Int) := by omega
    go_wp2_with fail
    go_ret
    refine ⟨ret_bool (hr.out.symm.trans (rightHB_no ?_)).symm, hb1.out⟩
    intro hh
    rw [hpl.out] at hh
    omega
  have h8' : ¬ (8 : Int) < (n : Int) := by omega
  have hryes : r = rightTo (pes es) n := hr.out.symm.trans ((rightHB_yes ⟨by omega, by omega, by omega, by omega, by omega, by omega, by assumption, by assumption, by omega, by omega, hk.out, by rw [hpl.out]; exact h8⟩).trans (by rw [hpl.out]))
  replace hryes := hide hryes
  go_wp2_with fail
  go_loopw [4] (fun i wr => ∃ j : Nat, j ≤ n ∧ i = .int .i64 (j : Int) ∧ rightTo (pes es) j = true ∧ Below w1.heap.size w1 wr) (fun i _ => n - (intOf i).toNat)
  case atStart => exact ⟨0, Nat.zero_le _, rfl, rfl, Below.refl _ _⟩
  case round =>
    obtain ⟨j, hj, rfl, hrt, hbr⟩ := hrel
    have hxr := hx1.out.on hbr
    have hgr := blk_below hbr hlt1 hbox.out
    have hltr := Nat.lt_of_lt_of_le hlt1 hbr.size
    clear hcg
    have hcg := blk_cell hgr
    replace hrt := hide hrt
    replace hbr := hide hbr
    replace hgr := hide hgr
    by_cases hlt : j < n
    · have hji : (j : Int) < (n : Int) := by omega
      have hj0 : (0 : Int) ≤ (j : Int) := by omega
      have hjc : (j : Int) ≤ (c : Int) := by omega
      obtain ⟨F, hF⟩ : ∃ F, beN (partB (es.take j)) 1 2 = F := ⟨_, rfl⟩
      obtain ⟨f, hf⟩ : ∃ f, F / 8 = f := ⟨_, rfl⟩
      obtain ⟨mo, hmo⟩ : ∃ mo, decide (F % 2 = 1) = mo := ⟨_, rfl⟩
      have hff : fragP ((pes es).take j) = f := by rw [← hf, ← hF, pes_frag, pes_take]
      have hxt := hxr.take (m := j) (by omega)
      obtain ⟨b, off, k, Ae, ce, xs, rfl, hbl, hge, hc0, hc1, hbx, hxc, hxm⟩ := hxr.at hlt
      have hpg := pes_get hge
      clear hge
      replace hxr := hide hxr
      replace hxt := hide hxt
      replace hF := hide hF
      replace hf := hide hf
      replace hmo := hide hmo
      replace hff := hide hff
      replace hc0 := hide hc0
      replace hc1 := hide hc1
      replace hbx := hide hbx
      replace hpg := hide hpg
      go_wp2_with fail
      refine (lawFrag_any _ j c (es.take j) _ hxt.out (by unfold maxLen; omega) F hF.out).mono ?_
      rintro e w2 ⟨rfl, hb2⟩
      rw [hf.out, hmo.out]
      have hg2 := blk_below hb2 hltr hgr.out
      have hd0 := (hb2.cell (p := ⟨b, off + j * 2, none⟩) hbl).trans hc0.out
      have hd1 := (hb2.cell (p := ⟨b, off + j * 2 + 1, none⟩) hbl).trans hc1.out
      have hx2 := hbx.out.on hb2
      have hB2 := hbr.out.trans (hb2.mono hbr.out.size)
      clear hcg hb2
      have hcg := blk_cell hg2
      replace hg2 := hide hg2
      replace hx2 := hide hx2
      replace hB2 := hide hB2
      go_wp2_with fail
      refine (lawRightExt_any k _ Ae xs.length ce xs _ hx2.out (by omega)).mono ?_
      rintro e w3 ⟨rfl, hb3⟩
      have hB3 := hB2.out.trans (hb3.mono hB2.out.size)
      clear hcg hb3
      replace hB3 := hide hB3
      rcases hre : rightExtB k (j : Int) xs with _ | _
      · have hstop := hryes.out.trans ((congrArg (rightTo (pes es)) hpl.out.symm).trans (rightTo_stop hpg.out (by rw [hre]; rfl)))
        replace hstop := hide hstop
        replace hre := hide hre
        go_wp2_with fail
        go_ret
        exact ⟨ret_bool hstop.out.symm, hb1.out.trans (hB3.out.mono hb1.out.size)⟩
      · by_cases hf0 : 0 < f
        · have hstop := hryes.out.trans ((congrArg (rightTo (pes es)) hpl.out.symm).trans (rightTo_stop hpg.out (by rw [hre, hff.out]; simp; omega)))
          have hf0' : (0 : Int) < (f : Int) := by omega
          replace hstop := hide hstop
          replace hre := hide hre
          go_wp2_with fail
          go_ret
          exact ⟨ret_bool hstop.out.symm, hb1.out.trans (hB3.out.mono hb1.out.size)⟩
        · have hnext : rightTo (pes es) (j + 1) = true := by rw [rightTo_succ _ _ _ hpg.out, hrt.out, hre, hff.out]; simp; omega
          have hf0' : ¬ (0 : Int) < (f : Int) := by omega
          replace hnext := hide hnext
          replace hre := hide hre
          go_wp2_with fail
          exact ⟨⟨j + 1, by omega, by go_num, hnext.out, hB3.out⟩, by simp [intOf]; omega⟩
    · have hji : ¬ (j : Int) < (n : Int) := by omega
      obtain rfl : j = n := by omega
      have hres : r = true := hryes.out.trans hrt.out
      replace hxr := hide hxr
      replace hres := hide hres
      go_wp2_with fail
      go_ret
      exact ⟨ret_bool hres.out.symm, hb1.out.trans (hbr.out.mono hb1.out.size)⟩
set_option maxRecDepth 4000 in
set_option maxHeartbeats 8000000 in
theorem right_any (cls lab hop : Int) (sv : Bool) (shi slo : Int) (dv : Bool) (dhi dlo : Int) (X : Option Addr) (n c : Nat) (proto : Int) (es : List Ext) (w : World) (hx : IsX w w.heap.size X n es) (hnc : n ≤ c) (hcm : c ≤ maxLen) :
    Calls Try.prog 75 #[hdV cls lab hop sv shi slo dv dhi dlo X n c proto] w fun e w' => e = .returned (.bool (rightHB cls lab hop sv dv proto (pes es))) ∧ Below w.heap.size w w' := by
  obtain ⟨r, hr⟩ : ∃ r, rightHB cls lab hop sv dv proto (pes es) = r := ⟨_, rfl⟩
  rw [hr]
  unfold maxLen at hcm
  have hbox := blk_new w 29 #[.int .i64 cls, .int .i64 lab, .int .i64 hop, .bool sv, .int .u64 shi, .int .u64 slo, .bool dv, .int .u64 dhi, .int .u64 dlo, .slice X n c, .int .i64 proto]
  obtain ⟨w1, hw1⟩ : ∃ w1, w.alloc (hdC cls lab hop sv shi slo dv dhi dlo X n c proto) = w1 := ⟨_, rfl⟩
  have hb1 : Below w.heap.size w w1 := hw1 ▸ (Below.refl _ _).alloc (Nat.le_refl _) _
  have hlt1 : w.heap.size < w1.heap.size := by rw [← hw1]; simp
  unfold hdC at hw1
  rw [hw1] at hbox
  have hcg := blk_cell hbox
  have hx1 := hx.on hb1
  have hpl : (pes es).length = n := by rw [pes_length]; exact hx.1
  replace hx := hide hx
  replace hx1 := hide hx1
  replace hb1 := hide hb1
  replace hbox := hide hbox
  replace hpl := hide hpl
  replace hr := hide hr
  unfold hdV
  go_enter Try.func75, Try.ntmps75
  go_wp2_with fail
  all_goals (try (go_ret; refine ⟨ret_bool (hr.out.symm.trans (rightHB_no ?_)).symm, hb1.out⟩; intro hh; first | omega | simp_all))
  refine (is_any proto _).mono ?_
  rintro e w' ⟨rfl, rfl⟩
  clear hw1
  rcases hk : isB proto with _ | _
  case true =>
    replace hk := hide hk
    go_wp2_with fail
    go_ret
    refine ⟨ret_bool (hr.out.symm.trans (rightHB_no ?_)).symm, hb1.out⟩
    intro hh
    rw [hk.out] at hh
    simp at hh
  replace hk := hide hk
  by_cases h8 : n ≤ 8
  case neg =>
    have h8' : (8 : Int) < (n : Int) := by omega
    go_wp2_with fail
    go_ret
    refine ⟨ret_bool (hr.out.symm.trans (rightHB_no ?_)).symm, hb1.out⟩
    intro hh
    rw [hpl.out] at hh
    omega
  have h8' : ¬ (8 : Int) < (n : Int) := by omega
  have hryes : r = rightTo (pes es) n := hr.out.symm.trans ((rightHB_yes ⟨by omega, by omega, by omega, by omega, by omega, by omega, by assumption, by assumption, by omega, by omega, hk.out, by rw [hpl.out]; exact h8⟩).trans (by rw [hpl.out]))
  replace hryes := hide hryes
  go_wp2_with fail
  go_loopw [70] (fun i wr => ∃ j : Nat, j ≤ n ∧ i = .int .i64 (j : Int) ∧ rightTo (pes es) j = true ∧ Below w1.heap.size w1 wr) (fun i _ => n - (intOf i).toNat)
  case atStart => exact ⟨0, Nat.zero_le _, rfl, rfl, Below.refl _ _⟩
  case round =>
    obtain ⟨j, hj, rfl, hrt, hbr⟩ := hrel
    have hxr := hx1.out.on hbr
    have hgr := blk_below hbr hlt1 hbox.out
    have hltr := Nat.lt_of_lt_of_le hlt1 hbr.size
    clear hcg
    have hcg := blk_cell hgr
    replace hrt := hide hrt
    replace hbr := hide hbr
    replace hgr := hide hgr
    by_cases hlt : j < n
    · have hji : (j : Int) < (n : Int) := by omega
      have hj0 : (0 : Int) ≤ (j : Int) := by omega
      have hjc : (j : Int) ≤ (c : Int) := by omega
      obtain ⟨f, hf⟩ : ∃ f, beN (partB (es.take j)) 1 2 / 8 = f := ⟨_, rfl⟩
      have hff : fragP ((pes es).take j) = f := by rw [← hf, pes_frag, pes_take]
      have hxt := hxr.take (m := j) (by omega)
      obtain ⟨b, off, k, Ae, ce, xs, rfl, hbl, hge, hc0, hc1, hbx, hxc, hxm⟩ := hxr.at hlt
      have hpg := pes_get hge
      have hxt3 := (hxt.alloc (.cells #[.int .i64 k, .slice Ae xs.length ce] 73)).alloc (hdC 0 0 0 false 0 0 false 0 0 (some ⟨b, off, none⟩) j c 0)
      have hbx3 := (hbx.alloc (.cells #[.int .i64 k, .slice Ae xs.length ce] 73)).alloc (hdC 0 0 0 false 0 0 false 0 0 (some ⟨b, off, none⟩) j c 0)
      have hb3 : Below wr.heap.size wr ((wr.alloc (.cells #[.int .i64 k, .slice Ae xs.length ce] 73)).alloc (hdC 0 0 0 false 0 0 false 0 0 (some ⟨b, off, none⟩) j c 0)) := ((Below.refl _ _).alloc (Nat.le_refl _) _).alloc (by simp) _
      have hg3 : ((wr.alloc (.cells #[.int .i64 k, .slice Ae xs.length ce] 73)).alloc (hdC 0 0 0 false 0 0 false 0 0 (some ⟨b, off, none⟩) j c 0)).heap[wr.heap.size + 1]? = some (hdC 0 0 0 false 0 0 false 0 0 (some ⟨b, off, none⟩) j c 0) := by simpa using blk_new (wr.alloc (.cells #[.int .i64 k, .slice Ae xs.length ce] 73)) 29 #[.int .i64 0, .int .i64 0, .int .i64 0, .bool false, .int .u64 0, .int .u64 0, .bool false, .int .u64 0, .int .u64 0, .slice (some ⟨b, off, none⟩) j c, .int .i64 0]
      unfold hdC at hxt3 hbx3 hb3 hg3
      clear hge hbx hxt
      replace hxr := hide hxr
      replace hxt3 := hide hxt3
      replace hf := hide hf
      replace hff := hide hff
      replace hbx3 := hide hbx3
      replace hpg := hide hpg
      replace hb3 := hide hb3
      replace hg3 := hide hg3
      go_wp2_with fail
      refine (rightExt_any k _ Ae xs.length ce xs _ hbx3.out (by omega)).mono ?_
      rintro e w2 ⟨rfl, hb2⟩
      have hz2 := hb2.size
      simp only [World.size_alloc] at hz2
      have hg2 := blk_below hb2 (by simp) hg3.out
      have hB2 := hbr.out.trans ((hb3.out.trans (hb2.mono (by simp; omega))).mono hbr.out.size)
      have hxt2 := hxt3.out.on hb2
      clear hcg hb2
      have hcg := blk_cell hg2
      replace hg2 := hide hg2
      replace hB2 := hide hB2
      replace hxt2 := hide hxt2
      rcases hre : rightExtB k (j : Int) xs with _ | _
      · have hstop := hryes.out.trans ((congrArg (rightTo (pes es)) hpl.out.symm).trans (rightTo_stop hpg.out (by rw [hre]; rfl)))
        replace hstop := hide hstop
        replace hre := hide hre
        go_wp2_with fail
        go_ret
        exact ⟨ret_bool hstop.out.symm, hb1.out.trans (hB2.out.mono hb1.out.size)⟩
      · replace hre := hide hre
        go_wp2_with fail
        refine (frag_any 0 0 0 false 0 0 false 0 0 _ j c 0 (es.take j) _ hxt2.out (by unfold maxLen; omega)).mono ?_
        rintro e w3 ⟨rfl, hb3'⟩
        rw [hf.out]
        have hB3 := hB2.out.trans (hb3'.mono hB2.out.size)
        clear hcg hb3'
        replace hB3 := hide hB3
        by_cases hf0 : 0 < f
        · have hstop := hryes.out.trans ((congrArg (rightTo (pes es)) hpl.out.symm).trans (rightTo_stop hpg.out (by rw [hre.out, hff.out]; simp; omega)))
          have hf0' : (0 : Int) < (f : Int) := by omega
          replace hstop := hide hstop
          go_wp2_with fail
          go_ret
          exact ⟨ret_bool hstop.out.symm, hb1.out.trans (hB3.out.mono hb1.out.size)⟩
        · have hnext : rightTo (pes es) (j + 1) = true := by rw [rightTo_succ _ _ _ hpg.out, hrt.out, hre.out, hff.out]; simp; omega
          have hf0' : ¬ (0 : Int) < (f : Int) := by omega
          replace hnext := hide hnext
          go_wp2_with fail
          exact ⟨⟨j + 1, by omega, by go_num, hnext.out, hB3.out⟩, by simp [intOf]; omega⟩
    · have hji : ¬ (j : Int) < (n : Int) := by omega
      obtain rfl : j = n := by omega
      have hres : r = true := hryes.out.trans hrt.out
      replace hxr := hide hxr
      replace hres := hide hres
      go_wp2_with fail
      go_ret
      exact ⟨ret_bool hres.out.symm, hb1.out.trans (hbr.out.mono hb1.out.size)⟩
end Six
end Go.Proofs.Ytdmgbngdpjcliaa
/- The law's bytes of a header, those that extend it, and what is behind, by contract. Conditions: slices that read as lists, numbers as a header may have them. -/
namespace Go.Proofs.Ytdmgbngdpjcliaa
open Go.RowKit Go.ChangeShapes Go.WideShapes Go.ChangeAt Go.Deep
theorem u8i {z : Int} {x : Nat} (h : z = (x : Int) % 256) : Value.int .u8 z = u8v (UInt8.ofNat x) := by rw [h, u8v_mod]
theorem list8 {α : Type} {a0 a1 a2 a3 a4 a5 a6 a7 b0 b1 b2 b3 b4 b5 b6 b7 : α} (h0 : a0 = b0) (h1 : a1 = b1) (h2 : a2 = b2) (h3 : a3 = b3) (h4 : a4 = b4) (h5 : a5 = b5) (h6 : a6 = b6) (h7 : a7 = b7) : [a0, a1, a2, a3, a4, a5, a6, a7] = [b0, b1, b2, b3, b4, b5, b6, b7] := by
  subst h0 h1 h2 h3 h4 h5 h6 h7; rfl
theorem drop_get {α : Type} {l : List α} {i : Nat} {e : α} (h : l[i]? = some e) : l.drop i = e :: l.drop (i + 1) := by
  obtain ⟨hl, rfl⟩ := List.getElem?_eq_some_iff.1 h
  exact List.drop_eq_getElem_cons hl
namespace Six
/-- A header's first eight bytes. -/
def hd8 (cls lab hop next T : Nat) : List UInt8 := [UInt8.ofNat (96 + cls / 16), UInt8.ofNat (cls % 16 * 16 + lab / 65536), UInt8.ofNat (lab / 256), UInt8.ofNat lab, UInt8.ofNat (T / 256), UInt8.ofNat T, UInt8.ofNat next, UInt8.ofNat hop]
/-- All of it. -/
def allB6 (cls lab hop shi slo dhi dlo proto : Nat) (es : List (Int × List UInt8)) (ps : List UInt8) : List UInt8 :=
  hd8 cls lab hop (nextP es proto).toNat (extB es proto ++ ps).length ++ addrB true shi slo ++ addrB true dhi dlo ++ (extB es proto ++ ps)
theorem sumP_le (es : List (Int × List UInt8)) (h : ∀ e ∈ es, e.2.length ≤ 2047) : sumP es ≤ es.length * 2048 := by
  induction es with
  | nil => simp [sumP]
  | cons e es ih =>
    have h1 := ih fun x hx => h x (by simp [hx])
    have h2 := h e (by simp)
    simp only [sumP, List.map_cons, List.sum_cons, List.length_cons] at h1 ⊢
    omega
set_option maxRecDepth 20000 in
set_option maxHeartbeats 8000000 in
theorem lawBytes_any (cls lab hop : Nat) (sv : Bool) (shi slo : Nat) (dv : Bool) (dhi dlo : Nat) (X : Option Addr) (n c : Nat) (proto : Nat) (es : List Ext) (P : Option Addr) (m d : Nat) (ps : List UInt8) (w : World)
    (hx : IsX w w.heap.size X n es) (_hnc : n ≤ c) (_hcm : c ≤ maxLen) (hp : IsB w w.heap.size P m ps) (_hmd : m ≤ d) (_hdm : d ≤ maxLen) (hsv : sv = true) (hdv : dv = true)
    (b1 : cls ≤ 255) (b2 : lab ≤ 1048575) (b3 : hop ≤ 255) (b4 : proto ≤ 255) (b5 : shi < 18446744073709551616) (b6 : slo < 18446744073709551616) (b7 : dhi < 18446744073709551616) (b8 : dlo < 18446744073709551616)
    (hn : n ≤ 8) (hm : m ≤ 4096) (hk : ∀ e ∈ es, 0 ≤ e.k ∧ e.k ≤ 255) (hl : ∀ e ∈ es, e.xs.length ≤ 2047) :
    Calls Try.prog 18 #[hdV cls lab hop sv shi slo dv dhi dlo X n c proto, .slice P m d] w fun e w' => ∃ v, e = .returned v ∧ OwnB w' w.heap.size v (allB6 cls lab hop shi slo dhi dlo proto (pes es) ps) ∧ Below w.heap.size w w' := by
  subst hsv hdv
  have hbox := blk_new w 29 #[.int .i64 cls, .int .i64 lab, .int .i64 hop, .bool true, .int .u64 shi, .int .u64 slo, .bool true, .int .u64 dhi, .int .u64 dlo, .slice X n c, .int .i64 proto]
  obtain ⟨w1, hw1⟩ : ∃ w1, w.alloc (hdC cls lab hop true shi slo true dhi dlo X n c proto) = w1 := ⟨_, rfl⟩
  have hb1 : Below w.heap.size w w1 := hw1 ▸ (Below.refl _ _).alloc (Nat.le_refl _) _
  have hlt1 : w.heap.size < w1.heap.size := by rw [← hw1]; simp
  unfold hdC at hw1
  rw [hw1] at hbox
  have hcg := blk_cell hbox
  have hx1 := hx.on hb1
  have hp1 := hp.on hb1
  have hpl : (pes es).length = n := by rw [pes_length]; exact hx.1
  have hel := hx.1
  have hpm := hp.1
  have hsum : (extB (pes es) proto).length ≤ 16384 := by
    rw [extB_length]
    have := sumP_le (pes es) (fun e he => by obtain ⟨e', he', rfl⟩ := List.mem_map.1 he; exact hl e' he')
    rw [hpl] at this
    omega
  replace hx := hide hx
  replace hx1 := hide hx1
  replace hp := hide hp
  replace hp1 := hide hp1
  replace hb1 := hide hb1
  replace hbox := hide hbox
  replace hpl := hide hpl
  replace hk := hide hk
  replace hl := hide hl
  replace hel := hide hel
  replace hpm := hide hpm
  replace hsum := hide hsum
  unfold hdV
  go_enter Try.func18, Try.ntmps18
  go_wp2_with fail
  clear hw1
  go_loopw [5, 6, 7] (fun u nv i wr => ∃ (j nx : Nat) (ts : List UInt8), j ≤ n ∧ i = .int .i64 ((j : Int) - 1) ∧ nv = .int .i64 (nx : Int) ∧ nextP ((pes es).drop j) proto = (nx : Int) ∧ nx ≤ 255 ∧ extB ((pes es).drop j) proto = ts ∧ OwnB wr w1.heap.size u ts ∧ Below w1.heap.size w1 wr) (fun _ _ i _ => (intOf i + 1).toNat)
  case atStart => exact ⟨n, proto, [], Nat.le_refl _, rfl, rfl, by rw [List.drop_of_length_le (by rw [hpl.out]; exact Nat.le_refl _)]; rfl, b4, by rw [List.drop_of_length_le (by rw [hpl.out]; exact Nat.le_refl _)]; rfl, OwnB.nil _ _, Below.refl _ _⟩
  case round =>
    obtain ⟨j, nx, ts, hj, rfl, rfl, hnx, hnx2, hts, hu, hbr⟩ := hrel
    have hxr := hx1.out.on hbr
    have hgr := blk_below hbr hlt1 hbox.out
    have hz1r := hbr.size
    have hltr := Nat.lt_of_lt_of_le hlt1 hz1r
    have htl : ts.length ≤ 16384 := by
      rw [← hts]
      have h1 := hsum.out
      rw [extB_length] at h1 ⊢
      have h2 : sumP (pes es) = sumP ((pes es).take j) + sumP ((pes es).drop j) := by
        unfold sumP
        rw [← List.sum_append, ← List.map_append, List.take_append_drop]
      omega
    clear hcg
    have hcg := blk_cell hgr
    rcases j with _ | i
    · rw [List.drop_zero] at hnx hts
      have hpr := hp1.out.on hbr
      replace hxr := hide hxr
      replace hnx := hide hnx
      replace hts := hide hts
      replace hu := hide hu
      replace hbr := hide hbr
      replace hgr := hide hgr
      replace hpr := hide hpr
      go_wp2_with (at_builtin; refine wpl_src_bv rfl (.tmp 40) (.tmp 41) rfl w1.heap.size _ ts ps P m d wr.heap.size rfl rfl hu.out hpr.out hz1r ?_ ?_)
      · omega
      intro v4 w4 hown4 hg4
      have hb4 := hg4.below hu.out hz1r
      have hB4 := hbr.out.trans hb4
      have hz4 := hB4.size
      have hg4' := blk_below hB4 hlt1 hbox.out
      obtain ⟨T, hT⟩ : ∃ T, (ts ++ ps).length = T := ⟨_, rfl⟩
      have hT2 : T ≤ 20480 := by rw [← hT, List.length_append, hpm.out]; omega
      obtain ⟨A4, c4, rfl, hc4, hm4, hi4⟩ := hown4.form
      rw [hT] at hc4 hi4 ⊢
      clear hown4 hcg hg4
      have hcg := blk_cell hg4'
      have hlt4 := Nat.lt_of_lt_of_le hlt1 hz4
      replace hb4 := hide hb4
      replace hB4 := hide hB4
      replace hg4' := hide hg4'
      replace hT := hide hT
      replace hi4 := hide hi4
      go_wp2_with fail
      refine (addrBytes_any true shi slo _ b5 b6).mono ?_
      rintro e w6 ⟨v6, rfl, hown6, hb6⟩
      have hlit := (OwnB.litv w4 w4.heap.size _ (hd8 cls lab hop nx T) 8 ?hv rfl (Nat.le_refl _) (by omega)).below hb6
      case hv => exact list8 (u8i (by omega)) (u8i (by omega)) (u8i (by omega)) (u8i (by omega)) (u8i (by omega)) (u8i (by omega)) (u8i (by omega)) (u8i (by omega))
      have hbl : Below w4.heap.size w4 w6 := ((Below.refl _ _).alloc (Nat.le_refl _) _).trans (hb6.mono (by simp))
      have hz6 := hbl.size
      have hBx6 := hB4.out.trans (hbl.mono hz4)
      have hg6 := blk_below hBx6 hlt1 hbox.out
      have hi46 := hi4.out.below hbl
      obtain ⟨A6, c6, rfl, hc6, hm6, hi6⟩ := hown6.form
      clear hcg hown6 hb6
      have hcg := blk_cell hg6
      have hal : (addrB true shi slo).length = 16 := by simp [addrB, beB_length]
      rw [hal] at hc6 hi6 ⊢
      replace hlit := hide hlit
      replace hbl := hide hbl
      replace hBx6 := hide hBx6
      replace hg6 := hide hg6
      replace hi46 := hide hi46
      replace hi6 := hide hi6
      replace hal := hide hal
      go_wp2_with (at_builtin; refine wpl_src_bv rfl (.tmp 77) (.tmp 80) rfl w4.heap.size _ (hd8 cls lab hop nx T) (addrB true shi slo) A6 16 c6 w6.heap.size rfl rfl hlit.out hi6.out hz6 ?_ ?_)
      · rw [show (hd8 cls lab hop nx T).length = 8 from rfl]; omega
      intro v7 w7 hown7 hg7
      have hb7 := hbl.out.trans (hg7.below hlit.out hz6)
      have hz7 := hb7.size
      have hBx7 := hB4.out.trans (hb7.mono hz4)
      have hg7' := blk_below hBx7 hlt1 hbox.out
      clear hcg hg7
      have hcg := blk_cell hg7'
      replace hown7 := hide hown7
      replace hb7 := hide hb7
      replace hBx7 := hide hBx7
      replace hg7' := hide hg7'
      go_wp2_with fail
      refine (addrBytes_any true dhi dlo _ b7 b8).mono ?_
      rintro e w8 ⟨v8, rfl, hown8, hb8⟩
      have hown78 := hown7.out.below hb8
      have hb8' := hb7.out.trans (hb8.mono hz7)
      have hz8 := hb8'.size
      obtain ⟨A8, c8, rfl, hc8, hm8, hi8⟩ := hown8.form
      have hal2 : (addrB true dhi dlo).length = 16 := by simp [addrB, beB_length]
      rw [hal2] at hc8 hi8 ⊢
      clear hcg hown8 hb8
      replace hown78 := hide hown78
      replace hb8' := hide hb8'
      replace hi8 := hide hi8
      replace hal2 := hide hal2
      go_wp2_with (at_builtin; refine wpl_src_bv rfl (.tmp 82) (.tmp 85) rfl w4.heap.size v7 (hd8 cls lab hop nx T ++ addrB true shi slo) (addrB true dhi dlo) A8 16 c8 w8.heap.size rfl rfl hown78.out hi8.out hz8 ?_ ?_)
      · rw [List.length_append, hal.out, show (hd8 cls lab hop nx T).length = 8 from rfl]; omega
      intro v9 w9 hown9 hg9
      have hb9 := hb8'.out.trans (hg9.below hown78.out hz8)
      have hz9 := hb9.size
      have hi49 := hi4.out.below hb9
      clear hg9
      replace hown9 := hide hown9
      replace hb9 := hide hb9
      replace hi49 := hide hi49
      go_wp2_with (at_builtin; refine wpl_src_bv rfl (.tmp 87) (.tmp 88) rfl w4.heap.size v9 (hd8 cls lab hop nx T ++ addrB true shi slo ++ addrB true dhi dlo) (ts ++ ps) A4 T c4 w4.heap.size rfl rfl ?_ hi49.out hz9 ?_ ?_)
      · simpa using hown9.out
      · rw [List.length_append, List.length_append, hal.out, hal2.out, show (hd8 cls lab hop nx T).length = 8 from rfl]; omega
      intro v10 w10 hown10 hg10
      have hbX := hB4.out.trans ((hb9.out.trans (hg10.below (by simpa using hown9.out) hz9)).mono hz4)
      have hfin : (hd8 cls lab hop nx T ++ addrB true shi slo ++ addrB true dhi dlo) ++ (ts ++ ps) = allB6 cls lab hop shi slo dhi dlo proto (pes es) ps := by
        unfold allB6
        rw [hts.out, hT.out, hnx.out]
        simp
      have hown11 : OwnB w10 w4.heap.size v10 (allB6 cls lab hop shi slo dhi dlo proto (pes es) ps) := by rw [← hfin]; simpa using hown10
      clear hg10 hown10
      replace hown11 := hide hown11
      replace hbX := hide hbX
      go_wp2_with fail
      go_ret
      exact ⟨_, rfl, hown11.out.weaken (by omega), hb1.out.trans (hbX.out.mono (by omega))⟩
    · have e1 : (((i + 1 : Nat) : Int) - 1) = (i : Int) := by omega
      rw [e1]
      obtain ⟨b, off, k, Ae, ce, xs, rfl, hbl, hge, hc0, hc1, hbx, hxc, hxm⟩ := hxr.at (i := i) (by omega)
      have hpg := pes_get hge
      have hkb := hk.out ⟨k, Ae, ce, xs⟩ (List.mem_of_getElem? hge)
      have hxl : xs.length ≤ 2047 := hl.out ⟨k, Ae, ce, xs⟩ (List.mem_of_getElem? hge)
      obtain ⟨kn, rfl⟩ : ∃ kn : Nat, k = (kn : Int) := ⟨k.toNat, by have := hkb.1; dsimp only at this; omega⟩
      have hkn : kn ≤ 255 := by have := hkb.2; dsimp only at this; omega
      have hji : (i : Int) < (n : Int) := by omega
      have hj0 : (0 : Int) ≤ (i : Int) := by omega
      obtain ⟨At, ct, rfl, hct, hmt, hit⟩ := hu.form
      have hlit := OwnB.litv wr wr.heap.size [.int .u8 (nx : Int)] [UInt8.ofNat nx] 1 (by simp only [List.map_cons, List.map_nil]; rw [u8v_nat _ (by omega)]) rfl (Nat.le_refl _) (by omega)
      clear hge hkb hu
      replace hxr := hide hxr
      replace hnx := hide hnx
      replace hts := hide hts
      replace hbr := hide hbr
      replace hgr := hide hgr
      replace hc0 := hide hc0
      replace hc1 := hide hc1
      replace hbx := hide hbx
      replace hpg := hide hpg
      replace hit := hide hit
      replace hlit := hide hlit
      have hd0 := hc0.out
      have hd1 := hc1.out
      go_wp2_with (at_builtin; refine wpl_src_bv rfl (.tmp 22) (.tmp 28) rfl wr.heap.size (.slice (some ⟨wr.heap.size, 0, none⟩) 1 1) [UInt8.ofNat nx] xs Ae xs.length ce wr.heap.size rfl rfl ?_ ?_ ?_ ?_ ?_)
      · exact OwnB.litv wr wr.heap.size _ [UInt8.ofNat nx] 1 (congrArg (fun x => [x]) (u8i (by omega))) rfl (Nat.le_refl _) (by omega)
      · exact hbx.out.below ((Below.refl _ _).alloc (Nat.le_refl _) _)
      · first | omega | simp
      intro v2 w2 hown2 hg2
      have hb2 : Below wr.heap.size wr w2 := ((Below.refl _ _).alloc (Nat.le_refl _) _).trans (hg2.below (OwnB.litv wr wr.heap.size _ [UInt8.ofNat nx] 1 (congrArg (fun x => [x]) (u8i (by omega))) rfl (Nat.le_refl _) (by omega)) (by simp))
      have hz2 := hb2.size
      have hit2 := hit.out.below hb2
      have hown2' : OwnB w2 wr.heap.size v2 (UInt8.ofNat nx :: xs) := by simpa using hown2
      clear hg2 hcg hd0 hd1 hown2
      replace hb2 := hide hb2
      replace hit2 := hide hit2
      replace hown2' := hide hown2'
      go_wp2_with (at_builtin; refine wpl_src_bv rfl (.tmp 30) (.tmp 31) rfl wr.heap.size v2 (UInt8.ofNat nx :: xs) ts At ts.length ct wr.heap.size rfl rfl hown2'.out hit2.out hz2 ?_ ?_)
      · rw [List.length_cons]; omega
      intro v3 w3 hown3 hg3
      have hb3 : Below wr.heap.size wr w3 := hb2.out.trans (hg3.below hown2'.out hz2)
      have hg3' := blk_below hb3 hltr hgr.out
      have hcg := blk_cell hg3'
      have hd0 := (hb3.cell (p := ⟨b, off + i * 2, none⟩) hbl).trans hc0.out
      have hB3 := hbr.out.trans (hb3.mono hz1r)
      have hown3' : OwnB w3 w1.heap.size v3 (UInt8.ofNat nx :: (xs ++ ts)) := by simpa using hown3.weaken hz1r
      have hnx3 : nextP ((pes es).drop i) proto = (kn : Int) := by rw [drop_get hpg.out]; rfl
      have hts3 : extB ((pes es).drop i) proto = UInt8.ofNat nx :: (xs ++ ts) := by
        rw [drop_get hpg.out, extB, hnx.out, hts.out]
        rfl
      clear hg3 hown3
      replace hb3 := hide hb3
      replace hg3' := hide hg3'
      replace hB3 := hide hB3
      replace hown3' := hide hown3'
      replace hnx3 := hide hnx3
      replace hts3 := hide hts3
      go_wp2_with fail
      exact ⟨⟨i, kn, _, by omega, rfl, rfl, hnx3.out, hkn, hts3.out, hown3'.out, hB3.out⟩, by simp [intOf] <;> omega⟩
end Six
end Go.Proofs.Ytdmgbngdpjcliaa
