/- A drawn region some of whose operations write (they are named), each waiting for the loads of what it writes: those loads are taken first as if nothing turned. No condition. -/
import Derived.Test.YtniieckjooahfaaRegionS
namespace Go.Proofs.Ytniieckjooahfaa
open Go.RowKit
section
variable {P : Program} {ops : Array Oper} {Q : Exit → Act → World → Prop} {md : Region.Mode}
/-- Whatever order is picked from here on; operation i goes on by Rj i. -/
def wpW (P : Program) (md : Region.Mode) (ops : Array Oper) (Q : Exit → Act → World → Prop) (Rj : Nat → World → World → Prop) : Nat → Array Bool → Act → World → Prop
  | 0, listed, a, w => Region.ready md ops listed = [] ∧ Q .normal a w
  | fuel + 1, listed, a, w => (Region.ready md ops listed = [] → Q .normal a w) ∧
      ∀ i ∈ Region.ready md ops listed, wpOp P ops Q i (fun a' w'' => Rj i w w'' ∧ wpW P md ops Q Rj fuel (listed.setIfInBounds i true) a' w'') a w
variable {Rj : Nat → World → World → Prop} {S : World → World → Prop}
theorem wpAny_of_W : ∀ (fuel : Nat) (listed : Array Bool) (a : Act) (w : World), wpW P md ops Q Rj fuel listed a w → wpAny P md ops Q fuel listed a w
  | 0, _, _, _, h => h
  | fuel + 1, _, _, _, h => ⟨h.1, fun i hi => wpOp_mono (fun a' w' h' => wpAny_of_W fuel _ a' w' h'.2) (h.2 i hi)⟩
theorem wpW_first (hr : ∀ w, S w w) (ht : ∀ a b c, S a b → S b c → S a c) (hRr : ∀ i w, Rj i w w) {i : Nat} {oi : Oper} {v : Value} (hi : ops[i]? = some oi) (hsel : ∀ (j : Nat) (o : Oper) cs b, ops[j]? = some o → o.op ≠ .select cs b)
    (hQ : ∀ c a w, Q (.panic c) (a.put oi.dst v) w → Q (.panic c) a w)
    (hcond : ∀ j oj, ops[j]? = some oj → j ≠ i → (∀ e ∈ oj.after, Region.binds md e = true → e.on ≠ i) → ∀ a b, Rj j a b → S a b) :
    ∀ (fuel : Nat) (listed : Array Bool) (a : Act) (w : World),
      (∀ j oj, ops[j]? = some oj → j ≠ i → listed.getD j true = false → (∀ e ∈ oj.after, Region.binds md e = true → e.on ≠ i) → oi.apart ops oj = true) →
      i ∈ Region.ready md ops listed → YieldsF P ops S w oi v a →
      wpW P md ops Q Rj fuel (listed.setIfInBounds i true) (a.put oi.dst v) w → wpW P md ops Q Rj (fuel + 1) listed a w := by
  intro fuel
  induction fuel with
  | zero =>
    intro listed a w _ hrd hy H
    refine ⟨fun h => (by rw [h] at hrd; cases hrd), fun j hj => ?_⟩
    by_cases hji : j = i
    · subst hji; exact hy.wpOp hi (hr _) ⟨hRr _ _, H⟩
    · have := ready_mono hj hji
      rw [H.1] at this
      cases this
  | succ fuel ih =>
    intro listed a w hfree hrd hy H
    refine ⟨fun h => (by rw [h] at hrd; cases hrd), fun j hj => ?_⟩
    by_cases hji : j = i
    · subst hji; exact hy.wpOp hi (hr _) ⟨hRr _ _, H⟩
    · have h1 := H.2 j (ready_mono hj hji)
      obtain ⟨hjun, oj, hoj, hall⟩ := mem_ready.1 hj
      have hnot : ∀ e ∈ oj.after, Region.binds md e = true → e.on ≠ i := fun e he hb heq => by
        have h1 := hall e he hb
        have h0 := (mem_ready.1 hrd).1
        rw [heq] at h1
        rcases Nat.lt_or_ge i listed.size with h' | h'
        · simp [h'] at h0 h1; rw [h0] at h1; cases h1
        · simp [Array.getElem?_eq_none h'] at h1
      have h2 := wpOp_putF hoj (hfree j oj hoj hji hjun hnot) (fun cs b => hsel i oi cs b hi) (fun cs b => hsel j oj cs b hoj) hQ hy h1
      have hfree' : ∀ k ok, ops[k]? = some ok → k ≠ i → (listed.setIfInBounds j true).getD k true = false →
          (∀ e ∈ ok.after, Region.binds md e = true → e.on ≠ i) → oi.apart ops ok = true := fun k ok hk hki hun hno => by
        refine hfree k ok hk hki ?_ hno
        by_cases hjk : j = k
        · subst hjk; exact hjun
        · rw [getD_set_ne true hjk] at hun; exact hun
      refine wpOp_mono (fun a' w' h3 => ⟨h3.2.1, ih (listed.setIfInBounds j true) a' w' hfree' (ready_mono hrd (Ne.symm hji)) (h3.1.later ht (hcond j oj hoj hji hnot _ _ h3.2.1)) ?_⟩) h2
      rw [Array.setIfInBounds_comm _ _ hji]
      exact h3.2.2
/-- Does every writer wait for operation i? -/
def hardB (md : Region.Mode) (ops : Array Oper) (Wr : List Nat) (i : Nat) : Bool :=
  Wr.all fun j => j == i || match ops[j]? with
    | some o => o.after.any fun e => Region.binds md e && e.on == i
    | none => true
/-- A writer goes on by R, the others by R0. -/
def Rel2 (Wr : List Nat) (R0 R : World → World → Prop) (j : Nat) (a b : World) : Prop := if Wr.contains j = true then R a b else R0 a b
theorem wpW_ord {R0 R : World → World → Prop} {Wr : List Nat} (h0 : ∀ a b, R0 a b → S a b) (hr : ∀ w, S w w) (ht : ∀ a b c, S a b → S b c → S a c) (hRr : ∀ i w, Rel2 Wr R0 R i w w)
    {w : World} (hs : Region.noSelect ops = true) (hQ : ∀ d v c a w, Q (.panic c) (Act.put a d v) w → Q (.panic c) a w) {fuel : Nat} {Q' : Act → Prop} : ∀ (ord : List Nat) (l : List Oper) (listed : Array Bool) (a : Act),
    (∀ i ∈ ord, (∀ a b, R a b → S a b) ∨ hardB md ops Wr i = true) →
    ord.map (fun i => ops[i]?) = l.map some → ordF md ops ord listed = true → wpQF P ops S w Q' l a → (∀ a', Q' a' → wpW P md ops Q (Rel2 Wr R0 R) fuel (listAll ord listed) a' w) →
    wpW P md ops Q (Rel2 Wr R0 R) (fuel + ord.length) listed a w
  | [], [], _, a, _, _, _, h, hq => hq a h
  | [], _ :: _, _, _, _, h, _, _, _ => by simp at h
  | _ :: _, [], _, _, _, h, _, _, _ => by simp at h
  | i :: ord, o :: l, listed, a, hh, hl, hB, h, hq => by
    simp only [List.map_cons, List.cons.injEq] at hl
    simp only [ordF, Bool.and_eq_true] at hB
    obtain ⟨⟨hrd, hf⟩, hB'⟩ := hB
    have hcond : ∀ j oj, ops[j]? = some oj → j ≠ i → (∀ e ∈ oj.after, Region.binds md e = true → e.on ≠ i) → ∀ a b, Rel2 Wr R0 R j a b → S a b := by
      intro j oj hoj hji hnot a b hab
      unfold Rel2 at hab
      split at hab
      · rename_i hc
        rcases hh i (by simp) with hR | hhard
        · exact hR a b hab
        · exfalso
          unfold hardB at hhard
          have h1 := List.all_eq_true.1 hhard j (by simpa using hc)
          rw [hoj] at h1
          simp only [Bool.or_eq_true, beq_iff_eq] at h1
          rcases h1 with h1 | h1
          · exact hji h1
          · obtain ⟨m, hm, he⟩ := Array.any_eq_true.1 h1
            simp only [Bool.and_eq_true, beq_iff_eq] at he
            exact hnot _ (Array.getElem_mem hm) he.1 he.2
      · exact h0 a b hab
    have step : ∀ v, YieldsF P ops S w o v a → wpQF P ops S w Q' l (a.put o.dst v) → wpW P md ops Q (Rel2 Wr R0 R) (fuel + (ord.length + 1)) listed a w := fun v hy hK =>
      wpW_first hr ht hRr hl.1 (Region.noSelect_spec hs) (hQ _ _) hcond _ listed a w (Region.free_spec hl.1 hf) (by simpa using hrd) hy (wpW_ord h0 hr ht hRr hs hQ ord l _ _ (fun k hk => hh k (by simp [hk])) hl.2 hB' hK hq)
    unfold wpQF at h
    split at h
    · rename_i hw
      obtain ⟨v, hv, hK⟩ := h
      exact step v (.inl ⟨hw, hv⟩) hK
    · rename_i hw
      exact step undef (.inr ⟨by simpa using hw, rfl⟩) h
theorem wpW_done {listed : Array Bool} {a : Act} {w : World} (hrd : Region.ready md ops listed = []) (h : Q .normal a w) : ∀ fuel, wpW P md ops Q Rj fuel listed a w
  | 0 => ⟨hrd, h⟩
  | _ + 1 => ⟨fun _ => h, fun i hi => by rw [hrd] at hi; cases hi⟩
theorem wpW_step (i : Nat) {L : List Oper} {o : Oper} {rest : List Oper} {fuel : Nat} {listed : Array Bool} {a : Act} {w : World} (hd : L.drop i = o :: rest) (hrd : Region.ready md L.toArray listed = [i])
    (h : ∀ K : Act → World → Prop, (∀ a'' w'', Rj i w w'' → wpW P md L.toArray Q Rj fuel (listed.setIfInBounds i true) a'' w'' → K a'' w'') →
      if Region.wanted o (yielded L.toArray a.tmps) then o.wp P a w K Q else K (a.put o.dst undef) w) : wpW P md L.toArray Q Rj (fuel + 1) listed a w := by
  refine ⟨fun h0 => (by rw [h0] at hrd; cases hrd), fun j hj => ?_⟩
  rw [hrd] at hj
  obtain rfl : j = i := by simpa using hj
  have h1 := h (fun a' w'' => Rj j w w'' ∧ wpW P md L.toArray Q Rj fuel (listed.setIfInBounds j true) a' w'') (fun _ _ h2 h3 => ⟨h2, h3⟩)
  unfold wpOp
  simp only [at_drop hd]
  split
  · rename_i hw; rw [if_pos hw] at h1; exact .inl h1
  · rename_i hw; rw [if_neg hw] at h1; exact h1
end
/-- What lies below block number S stays, but for some blocks: the writers' relation; the others turn nothing below S. -/
def RelS (Wr : List Nat) (S : Nat) (B : Nat → Prop) : Nat → World → World → Prop := Rel2 Wr (KeptS S (fun _ => False)) (KeptS S B)
theorem relS_refl (Wr : List Nat) (S : Nat) (B : Nat → Prop) (i : Nat) (w : World) : RelS Wr S B i w w := by
  unfold RelS Rel2
  split
  · exact keptS_refl _ _ _
  · exact keptS_refl _ _ _
theorem relS_of {Wr : List Nat} {S : Nat} {B : Nat → Prop} {i : Nat} {a b : World} (hw : Wr.contains i = true) (h : KeptS S B a b) : RelS Wr S B i a b := by
  unfold RelS Rel2
  rw [if_pos hw]
  exact h
theorem keptS_more {S : Nat} {B : Nat → Prop} {a b : World} (h : KeptS S (fun _ => False) a b) : KeptS S B a b := ⟨h.os, h.tape, h.output, h.size, fun k hk _ => h.block k hk id⟩
section
variable {P : Program} {Q : Exit → Act → World → Prop} {md : Region.Mode}
/-- The operations s .. s + k - 1 are taken first; what they read stays whatever is written. -/
theorem wpWS_seg (Wr : List Nat) (S : Nat) (B : Nat → Prop) (s k : Nat) {w : World} {L : List Oper} (hs : Region.noSelect L.toArray = true) (hQ : ∀ d v c a w, Q (.panic c) (Act.put a d v) w → Q (.panic c) a w) {fuel : Nat} {listed : Array Bool} {a : Act}
    (hl : Nat.ble (s + k) L.length = true) (hB : ordF md L.toArray (List.range' s k) listed = true) (h : wpQF P L.toArray (KeptS S B) w (fun a' => wpW P md L.toArray Q (RelS Wr S B) fuel (listAll (List.range' s k) listed) a' w) ((L.drop s).take k) a) :
    wpW P md L.toArray Q (RelS Wr S B) (fuel + k) listed a w := by
  have h1 := wpW_ord (S := KeptS S B) (R0 := KeptS S (fun _ => False)) (R := KeptS S B) (Wr := Wr) (fun _ _ => keptS_more) (keptS_refl S B) (keptS_trans S B) (relS_refl Wr S B) hs hQ (fuel := fuel) (List.range' s k) ((L.drop s).take k) listed a (fun _ _ => .inl fun _ _ h => h) (seg_map L k s (Nat.le_of_ble_eq_true hl)) hB h (fun _ h => h)
  rwa [List.length_range'] at h1
/-- .. and every writer waits for them: they read as if nothing were written. -/
theorem wpWH_seg (Wr : List Nat) (S : Nat) (B : Nat → Prop) (s k : Nat) {w : World} {L : List Oper} (hs : Region.noSelect L.toArray = true) (hQ : ∀ d v c a w, Q (.panic c) (Act.put a d v) w → Q (.panic c) a w) {fuel : Nat} {listed : Array Bool} {a : Act}
    (hl : Nat.ble (s + k) L.length = true) (hB : ordF md L.toArray (List.range' s k) listed = true) (hH : (List.range' s k).all (hardB md L.toArray Wr) = true) (h : wpQF P L.toArray (KeptS S (fun _ => False)) w (fun a' => wpW P md L.toArray Q (RelS Wr S B) fuel (listAll (List.range' s k) listed) a' w) ((L.drop s).take k) a) :
    wpW P md L.toArray Q (RelS Wr S B) (fuel + k) listed a w := by
  have hh : ∀ i ∈ List.range' s k, (∀ a b, KeptS S B a b → KeptS S (fun _ => False) a b) ∨ hardB md L.toArray Wr i = true := fun i hi => .inr (List.all_eq_true.1 hH i hi)
  have h1 := wpW_ord (md := md) (S := KeptS S (fun _ => False)) (R0 := KeptS S (fun _ => False)) (R := KeptS S B) (Wr := Wr) (fun _ _ h => h) (keptS_refl S _) (keptS_trans S _) (relS_refl Wr S B) hs hQ (fuel := fuel) (List.range' s k) ((L.drop s).take k) listed a hh (seg_map L k s (Nat.le_of_ble_eq_true hl)) hB h (fun _ h => h)
  rwa [List.length_range'] at h1
theorem wp_region_W {id : Nat} {a : Act} {w : World} {l : List Oper} (Wr : List Nat) (S : Nat) (B : Nat → Prop) (hm : P.follows .mixedOrders = true)
    (h : ∀ wd, Below w.heap.size w wd → wpW P .any l.toArray Q (RelS Wr S B) l.length (Array.replicate l.length false) a wd) : (Code.region id l.toArray true).wp P Q a w := by
  refine wp_region_any hm ?_
  have := wpAny_of_W l.length (Array.replicate l.length false) a w.drew (h _ (Below.refl _ _).drew)
  simpa using this
end
end Go.Proofs.Ytniieckjooahfaa
