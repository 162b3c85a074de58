/- Plain words on headers that extend one: which may be, their bytes, and that bytes are read as them. No condition. -/
import Derived.Test.YtdmgbngdpjcliaaSixChain
import Derived.Test.YtdmgbngdpjcliaaBePlain
namespace Go.Proofs.Ytdmgbngdpjcliaa
open Go.RowKit Go.ChangeShapes Go.WideShapes Go.ChangeAt Go.Deep
namespace Six
/-- May one extend at a place? -/
def rightExtB (k : Int) (at_ : Int) (xs : List UInt8) : Bool :=
  isB k && (!((k == 0) && decide (0 < at_)) && (decide (xs.length % 8 = 7) && (decide (xs.length ≤ 2047) && (if k = 44 then decide (xs.length = 7) else decide ((xs.getD 0 0).toNat = xs.length / 8)))))
/-- What comes next. -/
def nextP : List (Int × List UInt8) → Int → Int
  | [], p => p
  | e :: _, _ => e.1
/-- Their bytes. -/
def extB : List (Int × List UInt8) → Int → List UInt8
  | [], _ => []
  | e :: es, p => UInt8.ofNat (nextP es p).toNat :: (e.2 ++ extB es p)
def sumP (es : List (Int × List UInt8)) : Nat := (es.map fun e => e.2.length + 1).sum
theorem extB_length : ∀ (es : List (Int × List UInt8)) (p : Int), (extB es p).length = sumP es
  | [], _ => rfl
  | e :: es, p => by
    have := extB_length es p
    simp only [extB, List.length_cons, List.length_append, sumP, List.map_cons, List.sum_cons] at this ⊢
    omega
/-- May the first m be? -/
def rightTo (es : List (Int × List UInt8)) (m : Nat) : Bool :=
  (List.range m).all fun i => match es[i]? with
    | some e => rightExtB e.1 (i : Int) e.2 && decide (fragP (es.take i) = 0)
    | none => true
theorem rightTo_succ (es : List (Int × List UInt8)) (m : Nat) (e : Int × List UInt8) (h : es[m]? = some e) : rightTo es (m + 1) = (rightTo es m && (rightExtB e.1 (m : Int) e.2 && decide (fragP (es.take m) = 0))) := by
  unfold rightTo
  rw [List.range_succ, List.all_append]
  simp [h]
theorem rightTo_app (acc new : List (Int × List UInt8)) : ∀ m, m ≤ acc.length → rightTo (acc ++ new) m = rightTo acc m
  | 0, _ => rfl
  | m + 1, h => by
    have h1 : acc[m]? = some acc[m] := List.getElem?_eq_getElem (by omega)
    have h2 : (acc ++ new)[m]? = some acc[m] := by rw [List.getElem?_append_left (by omega), h1]
    rw [rightTo_succ _ m _ h1, rightTo_succ _ m _ h2, rightTo_app acc new m (by omega), List.take_append_of_le_length (by omega)]
theorem rightTo_le (es : List (Int × List UInt8)) {m k : Nat} (h : rightTo es m = true) (hk : k ≤ m) : rightTo es k = true := by
  unfold rightTo at *
  rw [List.all_eq_true] at *
  intro i hi
  exact h i (by rw [List.mem_range] at *; omega)
theorem cut_rs (rs : List UInt8) (size : Nat) (h1 : 1 ≤ size) (h2 : size ≤ rs.length) : rs = rs.getD 0 0 :: ((rs.take size).drop 1 ++ rs.drop size) := by
  obtain ⟨k, rfl⟩ : ∃ k, size = k + 1 := ⟨size - 1, by omega⟩
  cases rs with
  | nil => simp at h2
  | cons x t => simp
theorem frag_nil : fragP [] = 0 := rfl
/-- What comes up of a chain. -/
theorem chainF_sound : ∀ (f next : Nat) (rs : List UInt8) (acc acc' : List (Int × List UInt8)) (next' : Nat) (rest' : List UInt8), chainF f next rs acc = some (acc', next', rest') → rightTo acc acc.length = true → fragP acc = 0 → acc.length ≤ 8 → next ≤ 255 →
    ∃ new, acc' = acc ++ new ∧ nextP new (next' : Int) = (next : Int) ∧ rs = extB new (next' : Int) ++ rest' ∧ rightTo acc' acc'.length = true ∧ isB (next' : Int) = false ∧ next' ≤ 255 ∧ acc'.length ≤ 8
  := by
  intro f
  induction f with
  | zero => intro next rs acc acc' next' rest' h; simp [chainF] at h
  | succ f ih =>
    intro next rs acc acc' next' rest' h hr hf hl hn
    unfold chainF at h
    split at h
    · rename_i hb
      simp only [Option.some.injEq, Prod.mk.injEq] at h
      obtain ⟨rfl, rfl, rfl⟩ := h
      exact ⟨[], by simp, rfl, rfl, hr, hb, hn, hl⟩
    · rename_i hb
      split at h
      · cases h
      · rename_i h8
        split at h
        · cases h
        · rename_i hsz
          have hb' : isB (next : Int) = true := by simpa using hb
          obtain ⟨size, hs⟩ : ∃ size, sizeP next rs = size := ⟨_, rfl⟩
          rw [hs] at h hsz
          have hv : (rs.getD 1 0).toNat ≤ 255 := by have := (rs.getD 1 0).toNat_lt; omega
          have hs1 : 8 ≤ size := by rw [← hs]; unfold sizeP; split <;> omega
          have hcut := cut_rs rs size (by omega) (by omega)
          obtain ⟨e2, he2⟩ : ∃ e2, (rs.take size).drop 1 = e2 := ⟨_, rfl⟩
          rw [he2] at h hcut
          have he2l : e2.length = size - 1 := by rw [← he2, List.length_drop, List.length_take]; omega
          have he20 : e2.getD 0 0 = rs.getD 1 0 := by
            rw [← he2]
            simp only [List.getD, List.getElem?_drop, List.getElem?_take_of_lt (show 1 + 0 < size by omega)]
          have hre : rightExtB (next : Int) (acc.length : Int) e2 = true := by
            unfold rightExtB
            rw [hb', he2l, he20]
            have hz : (!(((next : Int) == 0) && decide ((0 : Int) < (acc.length : Int)))) = true := by
              by_cases h0 : next = 0
              · have : ¬ 0 < acc.length := fun h => hsz (.inr ⟨h0, h⟩)
                have h3 : ¬ ((0 : Int) < (acc.length : Int)) := by omega
                rw [decide_eq_false h3]
                simp
              · simp [h0]
            rw [hz]
            by_cases h44 : next = 44
            · have : size = 8 := by rw [← hs]; unfold sizeP; rw [if_pos h44]
              subst this
              rw [if_pos (by omega)]
              rfl
            · have : size = 8 + 8 * (rs.getD 1 0).toNat := by rw [← hs]; unfold sizeP; rw [if_neg h44]
              have h44' : ¬ (next : Int) = 44 := by omega
              simp only [if_neg h44', Bool.true_and]
              simp only [Bool.and_eq_true, decide_eq_true_eq]
              omega
          have hget : (acc ++ [((next : Int), e2)])[acc.length]? = some ((next : Int), e2) := by simp
          have hr1 : rightTo (acc ++ [((next : Int), e2)]) (acc ++ [((next : Int), e2)]).length = true := by
            rw [List.length_append, List.length_singleton, rightTo_succ _ _ _ hget, rightTo_app _ _ _ (Nat.le_refl _), hr, hre, List.take_left]
            simp [hf]
          have hl1 : (acc ++ [((next : Int), e2)]).length ≤ 8 := by
            simp only [List.length_append, List.length_singleton]; omega
          have hq : UInt8.ofNat (((rs.getD 0 0).toNat : Int)).toNat = rs.getD 0 0 := by simp
          have hq255 : (rs.getD 0 0).toNat ≤ 255 := by have := (rs.getD 0 0).toNat_lt; omega
          split at h
          · split at h
            · cases h
            · rename_i hb2
              simp only [Option.some.injEq, Prod.mk.injEq] at h
              obtain ⟨rfl, rfl, rfl⟩ := h
              refine ⟨[((next : Int), e2)], rfl, rfl, ?_, hr1, by simpa using hb2, hq255, hl1⟩
              simp only [extB, nextP, hq, List.append_nil]
              exact hcut
          · rename_i hfr
            obtain ⟨new, h1, h2, h3, h4⟩ := ih _ _ _ acc' next' rest' h hr1 (by omega) hl1 hq255
            refine ⟨((next : Int), e2) :: new, by rw [h1]; simp, rfl, ?_, h4⟩
            simp only [extB, h2, hq, List.cons_append, List.append_assoc]
            rw [← h3]
            exact hcut
/-- What was put is read again. -/
theorem chainF_back (p : Int) (pl : List UInt8) (hp0 : 0 ≤ p) (hp : p ≤ 255) (hb : isB p = false) : ∀ (es acc : List (Int × List UInt8)) (f : Nat), rightTo (acc ++ es) (acc ++ es).length = true → (acc ++ es).length ≤ 8 → (fragP acc = 0 ∨ es = []) → es.length + 1 ≤ f →
    (fragP acc = 0) → chainF f (nextP es p).toNat (extB es p ++ pl) acc = some (acc ++ es, p.toNat, pl)
  := by
  intro es
  induction es with
  | nil =>
    intro acc f _ _ _ hf _
    obtain ⟨f, rfl⟩ : ∃ f', f = f' + 1 := ⟨f - 1, by simp at hf; omega⟩
    have hpt : ((p.toNat : Nat) : Int) = p := by omega
    unfold chainF
    simp only [nextP, hpt, hb, if_true, extB, List.nil_append, List.append_nil]
  | cons e es ih =>
    obtain ⟨k, d⟩ := e
    intro acc f hr hl _ hf hfr
    obtain ⟨f, rfl⟩ : ∃ f', f = f' + 1 := ⟨f - 1, by simp at hf; omega⟩
    have hget : (acc ++ (k, d) :: es)[acc.length]? = some (k, d) := by simp
    have hr1 := rightTo_le _ hr (k := acc.length + 1) (by simp)
    rw [rightTo_succ _ _ _ hget] at hr1
    simp only [Bool.and_eq_true, decide_eq_true_eq] at hr1
    have hre := hr1.2.1
    unfold rightExtB at hre
    simp only [Bool.and_eq_true] at hre
    obtain ⟨hk, hz, h7, h47, hd0⟩ := hre
    have hkn : 0 ≤ k ∧ k ≤ 60 := by
      unfold isB at hk
      simp only [decide_eq_true_eq] at hk
      omega
    have hkt : ((k.toNat : Nat) : Int) = k := by omega
    simp only [decide_eq_true_eq] at h7 h47
    have hal : acc.length ≤ 7 := by simp at hl; omega
    obtain ⟨nx, hnx⟩ : ∃ nx, nextP es p = nx := ⟨_, rfl⟩
    have hnx2 : 0 ≤ nx ∧ nx ≤ 255 := by
      rw [← hnx]
      cases es with
      | nil => exact ⟨hp0, hp⟩
      | cons e2 es2 =>
        have hget2 : (acc ++ (k, d) :: e2 :: es2)[acc.length + 1]? = some e2 := by
          rw [List.getElem?_append_right (by omega)]; simp
        have hr2 := rightTo_le _ hr (k := acc.length + 1 + 1) (by simp; omega)
        rw [rightTo_succ _ _ _ hget2] at hr2
        simp only [Bool.and_eq_true] at hr2
        have h3 := hr2.2.1
        unfold rightExtB at h3
        simp only [Bool.and_eq_true] at h3
        have h4 := h3.1
        unfold isB at h4
        simp only [decide_eq_true_eq] at h4
        show 0 ≤ e2.1 ∧ e2.1 ≤ 255
        omega
    have hrs0 : (extB ((k, d) :: es) p ++ pl).getD 0 0 = UInt8.ofNat nx.toNat := by simp [extB, hnx]
    have hn8 : (UInt8.ofNat nx.toNat).toNat = nx.toNat := by rw [UInt8.toNat_ofNat']; omega
    have hlen : (extB ((k, d) :: es) p ++ pl).length = d.length + 1 + ((extB es p).length + pl.length) := by
      simp [extB]; omega
    have hrs1 : 0 < d.length → (extB ((k, d) :: es) p ++ pl).getD 1 0 = d.getD 0 0 := by
      intro h
      cases d with
      | nil => simp at h
      | cons x t => simp [extB]
    have hsize : sizeP k.toNat (extB ((k, d) :: es) p ++ pl) = d.length + 1 := by
      unfold sizeP
      by_cases h44 : k = 44
      · subst h44
        simp only [if_true, decide_eq_true_eq] at hd0
        rw [if_pos (by rfl)]
        omega
      · rw [if_neg h44] at hd0
        simp only [decide_eq_true_eq] at hd0
        rw [if_neg (by omega), hrs1 (by omega), hd0]
        omega
    have htake : ((extB ((k, d) :: es) p ++ pl).take (d.length + 1)).drop 1 = d := by simp [extB]
    have hdrop : (extB ((k, d) :: es) p ++ pl).drop (d.length + 1) = extB es p ++ pl := by simp [extB]
    unfold chainF
    simp only [nextP, hkt, hk, hsize, htake, hdrop, hrs0, hn8]
    rw [if_neg (by simp), if_neg (by omega), if_neg ?_]
    · by_cases hff : 0 < fragP (acc ++ [(k, d)])
      · have hes : es = [] := by
          cases es with
          | nil => rfl
          | cons e2 es2 =>
            exfalso
            have hget2 : (acc ++ (k, d) :: e2 :: es2)[acc.length + 1]? = some e2 := by
              rw [List.getElem?_append_right (by omega)]; simp
            have hr2 := rightTo_le _ hr (k := acc.length + 1 + 1) (by simp; omega)
            rw [rightTo_succ _ _ _ hget2] at hr2
            simp only [Bool.and_eq_true, decide_eq_true_eq] at hr2
            have h3 := hr2.2.2
            rw [show acc ++ (k, d) :: e2 :: es2 = (acc ++ [(k, d)]) ++ (e2 :: es2) by simp, show acc.length + 1 = (acc ++ [(k, d)]).length by simp, List.take_left] at h3
            omega
        subst hes
        simp only [nextP] at hnx
        subst hnx
        have hpt : ((p.toNat : Nat) : Int) = p := by omega
        rw [if_pos hff, hpt, hb]
        simp [extB]
      · rw [if_neg hff]
        have h5 := ih (acc ++ [(k, d)]) f (by simpa using hr) (by simpa using hl) (.inl (by omega)) (by simp at hf; omega) (by omega)
        rw [hnx] at h5
        rw [h5]
        simp
    · rintro (h | ⟨h0, h1⟩)
      · omega
      · have : k = 0 := by omega
        subst this
        have h1' : (0 : Int) < (acc.length : Int) := by omega
        rw [decide_eq_true h1'] at hz
        cases hz
end Six
end Go.Proofs.Ytdmgbngdpjcliaa
