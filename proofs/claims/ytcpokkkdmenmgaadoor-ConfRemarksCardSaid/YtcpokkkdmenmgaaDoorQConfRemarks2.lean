/- A region that draws its order, where some operations only read what no operation of the region turns, and are taken first; the others are carried out in whatever order is left, from world to world by a relation R. No condition. -/
import Derived.Test.YtcpokkkdmenmgaaDoorQConfRemarks1
import Derived.Test.YtcpokkkdmenmgaaDoorProg
import Derived.Maps.AppendAt
import Derived.OwnWalk
namespace Go.Proofs.YtcpokkkdmenmgaaDoor
open Go.RowKit
section
variable {P : Program} {ops : Array Oper} {Q : Exit → Act → World → Prop} {md : Region.Mode} {R : World → World → Prop}
/-- Whatever order is picked from here on; each operation goes on by R. -/
def wpF (P : Program) (md : Region.Mode) (ops : Array Oper) (Q : Exit → Act → World → Prop) (R : World → World → Prop) : Nat → Array Bool → Act → World → Prop
  | 0, listed, a, w => Region.ready md ops listed = [] ∧ Q .normal a w
  | fuel + 1, listed, a, w => (Region.ready md ops listed = [] → Q .normal a w) ∧
      ∀ i ∈ Region.ready md ops listed, wpOp P ops Q i (fun a' w'' => R w w'' ∧ wpF P md ops Q R fuel (listed.setIfInBounds i true) a' w'') a w
theorem wpAny_of_F : ∀ (fuel : Nat) (listed : Array Bool) (a : Act) (w : World), wpF P md ops Q R fuel listed a w → wpAny P md ops Q fuel listed a w
  | 0, _, _, _, h => h
  | fuel + 1, _, _, _, h => ⟨h.1, fun i hi => wpOp_mono (fun a' w' h' => wpAny_of_F fuel _ a' w' h'.2) (h.2 i hi)⟩
/-- The operation, in every R-later world, yields v, and leaves the world. -/
def YieldsF (P : Program) (ops : Array Oper) (R : World → World → Prop) (w0 : World) (o : Oper) (v : Value) (a : Act) : Prop :=
  (Region.wanted o (yielded ops a.tmps) = true ∧ ∀ w, R w0 w → quietIn P Eq w v ((execOp a.eval o).run P w)) ∨
  (Region.wanted o (yielded ops a.tmps) = false ∧ v = undef)
theorem YieldsF.later (ht : ∀ a b c, R a b → R b c → R a c) {w0 w1 : World} {o : Oper} {v : Value} {a : Act} (hy : YieldsF P ops R w0 o v a) (hw : R w0 w1) : YieldsF P ops R w1 o v a :=
  hy.imp (fun ⟨h1, h2⟩ => ⟨h1, fun w h => h2 w (ht _ _ _ hw h)⟩) id
theorem YieldsF.of_same {w0 : World} {o : Oper} {v : Value} {a a' : Act} (hy : YieldsF P ops R w0 o v a) (he : execOp a'.eval o = execOp a.eval o)
    (hw : Region.wanted o (yielded ops a'.tmps) = Region.wanted o (yielded ops a.tmps)) : YieldsF P ops R w0 o v a' := by
  unfold YieldsF at *
  rw [he, hw]
  exact hy
theorem YieldsF.wpOp {w0 : World} {i : Nat} {o : Oper} {v : Value} {a : Act} (hi : ops[i]? = some o) (hy : YieldsF P ops R w0 o v a) {K : Act → World → Prop} {w : World} (hw0 : R w0 w)
    (h : K (a.put o.dst v) w) : wpOp P ops Q i K a w := by
  unfold Go.wpOp
  simp only [hi]
  rcases hy with ⟨hw, hv⟩ | ⟨hw, rfl⟩
  · simp only [hw, if_true]
    refine .inl ?_
    have h3 := hv w hw0
    unfold Oper.wp
    generalize (execOp a.eval o).run P w = r at *
    cases r with
    | ok n w' =>
      cases n <;> simp only [quietIn] at h3 <;> simp only [Oper.upon]
      case value u => obtain ⟨rfl, rfl⟩ := h3; exact h
      case skip => obtain ⟨rfl, rfl⟩ := h3; exact h
      case enter f args => obtain ⟨rfl, h4⟩ := h3; exact h4.mono fun e w'' ⟨he, hw''⟩ => by subst he; subst hw''; exact h
    | halt x w' => simp only [quietIn] at h3
  · simp only [hw, Bool.false_eq_true, if_false]; exact h

theorem wpOp_putF {w0 : World} {j : Nat} {oi oj : Oper} {v : Value} (hj : ops[j]? = some oj) (hap : oi.apart ops oj = true)
    (hsi : ∀ cs b, oi.op ≠ .select cs b) (hsj : ∀ cs b, oj.op ≠ .select cs b)
    (hQ : ∀ c a w, Q (.panic c) (a.put oi.dst v) w → Q (.panic c) a w) {K : Act → World → Prop} {a : Act} {w : World}
    (hy : YieldsF P ops R w0 oi v a) (h : wpOp P ops Q j K (a.put oi.dst v) w) :
    wpOp P ops Q j (fun a' w' => YieldsF P ops R w0 oi v a' ∧ K (a'.put oi.dst v) w') a w := by
  obtain ⟨h1, h2, h3⟩ := Oper.apart_spec hap
  have keep : ∀ (a : Act), YieldsF P ops R w0 oi v a → ∀ u, YieldsF P ops R w0 oi v (a.put oj.dst u) := fun a hy u =>
    hy.of_same (execOp_put oi hsi a oj.dst u h3) (wanted_put oi a oj.dst u h3)
  have keepD : ∀ d, YieldsF P ops R w0 oi v { a with defers := d :: a.defers } := fun d => hy.of_same rfl rfl
  unfold wpOp at *
  simp only [hj] at *
  rw [wanted_put oj a oi.dst v h1] at h
  split
  · rename_i hw
    simp only [hw, if_true] at h
    rcases h with h | ⟨hasks, hlets⟩
    case inr => exact .inr ⟨by unfold Oper.asks at *; rw [execOp_put oj hsj a oi.dst v h1] at hasks; exact hasks, hlets⟩
    refine .inl ?_
    unfold Oper.wp at *
    rw [execOp_put oj hsj a oi.dst v h1] at h
    generalize (execOp a.eval oj).run P w = r at *
    cases r with
    | ok n w' =>
      cases n <;> simp only [Oper.upon] at h ⊢
      case value u => exact ⟨keep a hy u, by rw [← Act.put_comm a v u h2]; exact h⟩
      case skip => exact ⟨keep a hy _, by rw [← Act.put_comm a v undef h2]; exact h⟩
      case defer d =>
        refine ⟨keep _ (keepD d) _, ?_⟩
        rw [← Act.put_comm _ v undef h2, ← Act.put_defers]
        exact h
      case enter f args =>
        refine Calls.mono h fun e w'' he => ?_
        cases e with
        | returned u => exact ⟨keep a hy u, by rw [← Act.put_comm a v u h2]; exact he⟩
        | panicked c => exact hQ _ _ _ he
        | outgrown => exact he
      case row row args => exact Rows.mono h fun u w'' he => ⟨keep a hy u, by rw [← Act.put_comm a v u h2]; exact he⟩
    | halt x w' =>
      cases x <;> simp only [Oper.upon] at h ⊢
      case panic u => exact hQ _ _ _ h
  · rename_i hw
    simp only [hw] at h
    exact ⟨keep a hy _, by rw [← Act.put_comm a v undef h2]; exact h⟩

theorem wpF_first (hr : ∀ w, R w w) (ht : ∀ a b c, R a b → R b c → R a c) {i : Nat} {oi : Oper} {v : Value} (hi : ops[i]? = some oi) (hsel : ∀ (j : Nat) (o : Oper) cs b, ops[j]? = some o → o.op ≠ .select cs b)
    (hQ : ∀ c a w, Q (.panic c) (a.put oi.dst v) w → Q (.panic c) a w) :
    ∀ (fuel : Nat) (listed : Array Bool) (a : Act) (w : World),
      (∀ j oj, ops[j]? = some oj → j ≠ i → listed.getD j true = false → (∀ e ∈ oj.after, Region.binds md e = true → e.on ≠ i) → oi.apart ops oj = true) →
      i ∈ Region.ready md ops listed → YieldsF P ops R w oi v a →
      wpF P md ops Q R fuel (listed.setIfInBounds i true) (a.put oi.dst v) w → wpF P md ops Q R (fuel + 1) listed a w := by
  intro fuel
  induction fuel with
  | zero =>
    intro listed a w _ hrd hy H
    refine ⟨fun h => (by rw [h] at hrd; cases hrd), fun j hj => ?_⟩
    by_cases hji : j = i
    · subst hji; exact hy.wpOp hi (hr _) ⟨hr _, H⟩
    · have := ready_mono hj hji
      rw [H.1] at this
      cases this
  | succ fuel ih =>
    intro listed a w hfree hrd hy H
    refine ⟨fun h => (by rw [h] at hrd; cases hrd), fun j hj => ?_⟩
    by_cases hji : j = i
    · subst hji; exact hy.wpOp hi (hr _) ⟨hr _, H⟩
    · have h1 := H.2 j (ready_mono hj hji)
      obtain ⟨hjun, oj, hoj, hall⟩ := mem_ready.1 hj
      have hnot : ∀ e ∈ oj.after, Region.binds md e = true → e.on ≠ i := fun e he hb heq => by
        have h1 := hall e he hb
        have h0 := (mem_ready.1 hrd).1
        rw [heq] at h1
        rcases Nat.lt_or_ge i listed.size with h' | h'
        · simp [h'] at h0 h1; rw [h0] at h1; cases h1
        · simp [Array.getElem?_eq_none h'] at h1
      have h2 := wpOp_putF hoj (hfree j oj hoj hji hjun hnot) (fun cs b => hsel i oi cs b hi) (fun cs b => hsel j oj cs b hoj) hQ hy h1
      have hfree' : ∀ k ok, ops[k]? = some ok → k ≠ i → (listed.setIfInBounds j true).getD k true = false →
          (∀ e ∈ ok.after, Region.binds md e = true → e.on ≠ i) → oi.apart ops ok = true := fun k ok hk hki hun hno => by
        refine hfree k ok hk hki ?_ hno
        by_cases hjk : j = k
        · subst hjk; exact hjun
        · rw [getD_set_ne true hjk] at hun; exact hun
      refine wpOp_mono (fun a' w' h3 => ⟨h3.2.1, ih (listed.setIfInBounds j true) a' w' hfree' (ready_mono hrd (Ne.symm hji)) (h3.1.later ht h3.2.1) ?_⟩) h2
      rw [Array.setIfInBounds_comm _ _ hji]
      exact h3.2.2
/-- Some operations that only read, one behind the other. -/
def wpQF (P : Program) (ops : Array Oper) (R : World → World → Prop) (w0 : World) (Q : Act → Prop) : List Oper → Act → Prop
  | [], a => Q a
  | o :: rest, a => if Region.wanted o (yielded ops a.tmps) then ∃ v, (∀ w, R w0 w → quietIn P Eq w v ((execOp a.eval o).run P w)) ∧ wpQF P ops R w0 Q rest (a.put o.dst v) else wpQF P ops R w0 Q rest (a.put o.dst undef)
theorem wpQF_nil {w0 : World} {Q : Act → Prop} {a : Act} (h : Q a) : wpQF P ops R w0 Q [] a := h
theorem wpQF_step {w0 : World} {Q : Act → Prop} {a : Act} {o : Oper} {rest : List Oper}
    (h : ∀ K : Act → Prop, (∀ a, wpQF P ops R w0 Q rest a → K a) → if Region.wanted o (yielded ops a.tmps) then ∃ v, (∀ w, R w0 w → quietIn P Eq w v ((execOp a.eval o).run P w)) ∧ K (a.put o.dst v) else K (a.put o.dst undef)) : wpQF P ops R w0 Q (o :: rest) a :=
  h _ (fun _ h => h)
/-- May the operations 'ord' be taken first, in this order? -/
def ordF (md : Region.Mode) (ops : Array Oper) : List Nat → Array Bool → Bool
  | [], _ => true
  | i :: ord, listed => (Region.ready md ops listed).contains i && Region.free md ops listed i && ordF md ops ord (listed.setIfInBounds i true)
theorem wpF_ord (hr : ∀ w, R w w) (ht : ∀ a b c, R a b → R b c → R a c) {w : World} (hs : Region.noSelect ops = true) (hQ : ∀ d v c a w, Q (.panic c) (Act.put a d v) w → Q (.panic c) a w) {fuel : Nat} {Q' : Act → Prop} : ∀ (ord : List Nat) (l : List Oper) (listed : Array Bool) (a : Act),
    ord.map (fun i => ops[i]?) = l.map some → ordF md ops ord listed = true → wpQF P ops R w Q' l a → (∀ a', Q' a' → wpF P md ops Q R fuel (listAll ord listed) a' w) →
    wpF P md ops Q R (fuel + ord.length) listed a w
  | [], [], _, a, _, _, h, hq => hq a h
  | [], _ :: _, _, _, h, _, _, _ => by simp at h
  | _ :: _, [], _, _, h, _, _, _ => by simp at h
  | i :: ord, o :: l, listed, a, hl, hB, h, hq => by
    simp only [List.map_cons, List.cons.injEq] at hl
    simp only [ordF, Bool.and_eq_true] at hB
    obtain ⟨⟨hrd, hf⟩, hB'⟩ := hB
    have step : ∀ v, YieldsF P ops R w o v a → wpQF P ops R w Q' l (a.put o.dst v) → wpF P md ops Q R (fuel + (ord.length + 1)) listed a w := fun v hy hK =>
      wpF_first hr ht hl.1 (Region.noSelect_spec hs) (hQ _ _) _ listed a w (Region.free_spec hl.1 hf) (by simpa using hrd) hy (wpF_ord hr ht hs hQ ord l _ _ hl.2 hB' hK hq)
    unfold wpQF at h
    split at h
    · rename_i hw
      obtain ⟨v, hv, hK⟩ := h
      exact step v (.inl ⟨hw, hv⟩) hK
    · rename_i hw
      exact step undef (.inr ⟨by simpa using hw, rfl⟩) h
/-- The operations s .. s + k - 1 of the text are taken first. -/
theorem wpF_seg (hr : ∀ w, R w w) (ht : ∀ a b c, R a b → R b c → R a c) {w : World} {L : List Oper} (s k : Nat) (hs : Region.noSelect L.toArray = true) (hQ : ∀ d v c a w, Q (.panic c) (Act.put a d v) w → Q (.panic c) a w) {fuel : Nat} {listed : Array Bool} {a : Act}
    (hl : Nat.ble (s + k) L.length = true) (hB : ordF md L.toArray (List.range' s k) listed = true) (h : wpQF P L.toArray R w (fun a' => wpF P md L.toArray Q R fuel (listAll (List.range' s k) listed) a' w) ((L.drop s).take k) a) :
    wpF P md L.toArray Q R (fuel + k) listed a w := by
  have h1 := wpF_ord hr ht hs hQ (fuel := fuel) (List.range' s k) ((L.drop s).take k) listed a (seg_map L k s (Nat.le_of_ble_eq_true hl)) hB h (fun _ h => h)
  rwa [List.length_range'] at h1
/-- Number i alone may come up: it is carried out, as in a walk. -/
theorem wpF_step (i : Nat) {L : List Oper} {o : Oper} {rest : List Oper} {fuel : Nat} {listed : Array Bool} {a : Act} {w : World} (hd : L.drop i = o :: rest) (hrd : Region.ready md L.toArray listed = [i])
    (h : ∀ K : Act → World → Prop, (∀ a'' w'', R w w'' → wpF P md L.toArray Q R fuel (listed.setIfInBounds i true) a'' w'' → K a'' w'') →
      if Region.wanted o (yielded L.toArray a.tmps) then o.wp P a w K Q else K (a.put o.dst undef) w) : wpF P md L.toArray Q R (fuel + 1) listed a w := by
  refine ⟨fun h0 => (by rw [h0] at hrd; cases hrd), fun j hj => ?_⟩
  rw [hrd] at hj
  obtain rfl : j = i := by simpa using hj
  have h1 := h (fun a' w'' => R w w'' ∧ wpF P md L.toArray Q R fuel (listed.setIfInBounds j true) a' w'') (fun _ _ h2 h3 => ⟨h2, h3⟩)
  unfold wpOp
  simp only [at_drop hd]
  split
  · rename_i hw; rw [if_pos hw] at h1; exact .inl h1
  · rename_i hw; rw [if_neg hw] at h1; exact h1
theorem wpF_done {listed : Array Bool} {a : Act} {w : World} (hrd : Region.ready md ops listed = []) (h : Q .normal a w) : ∀ fuel, wpF P md ops Q R fuel listed a w
  | 0 => ⟨hrd, h⟩
  | _ + 1 => ⟨fun _ => h, fun i hi => by rw [hrd] at hi; cases hi⟩
theorem wp_region_F {id : Nat} {a : Act} {w : World} {l : List Oper} (R : World → World → Prop) (hm : P.follows .mixedOrders = true)
    (h : wpF P .any l.toArray Q R l.length (Array.replicate l.length false) a w.drew) : (Code.region id l.toArray true).wp P Q a w := by
  refine wp_region_any hm ?_
  have := wpAny_of_F l.length (Array.replicate l.length false) a w.drew h
  simpa using this
end
/-- Worlds in which what lay below block number B stays. -/
structure From (B : Nat) (w0 : World) where
  w : World
  hb : Below B w0 w
instance from_nonempty (B : Nat) (w0 : World) : Nonempty (From B w0) := ⟨⟨w0, Below.refl _ _⟩⟩
section
variable {P : Program} {Q : Exit → Act → World → Prop} {md : Region.Mode}
theorem below_refl' (B : Nat) (w : World) : Below B w w := Below.refl _ _
theorem below_trans' (B : Nat) (a b c : World) (h : Below B a b) (k : Below B b c) : Below B a c := h.trans k
/-- .. the relation: what lies below block number B stays. -/
theorem wpB_seg (B s k : Nat) {w : World} {L : List Oper} (hs : Region.noSelect L.toArray = true) (hQ : ∀ d v c a w, Q (.panic c) (Act.put a d v) w → Q (.panic c) a w) {fuel : Nat} {listed : Array Bool} {a : Act}
    (hl : Nat.ble (s + k) L.length = true) (hB : ordF md L.toArray (List.range' s k) listed = true) (h : wpQF P L.toArray (Below B) w (fun a' => wpF P md L.toArray Q (Below B) fuel (listAll (List.range' s k) listed) a' w) ((L.drop s).take k) a) :
    wpF P md L.toArray Q (Below B) (fuel + k) listed a w := wpF_seg (below_refl' B) (below_trans' B) s k hs hQ hl hB h
theorem wpQB_step {B : Nat} {ops : Array Oper} {w0 : World} {Q : Act → Prop} {a : Act} {o : Oper} {rest : List Oper}
    (h : ∀ K : Act → Prop, (∀ a, wpQF P ops (Below B) w0 Q rest a → K a) → if Region.wanted o (yielded ops a.tmps) then ∃ v, (∀ l : From B w0, quietIn P Eq l.w v ((execOp a.eval o).run P l.w)) ∧ K (a.put o.dst v) else K (a.put o.dst undef)) : wpQF P ops (Below B) w0 Q (o :: rest) a := by
  have h1 := h _ (fun _ h => h)
  unfold wpQF
  split at h1
  · obtain ⟨v, hv, hK⟩ := h1
    rw [if_pos (by assumption)]
    exact ⟨v, fun w hw => hv ⟨w, hw⟩, hK⟩
  · rw [if_neg (by assumption)]
    exact h1
end
end Go.Proofs.YtcpokkkdmenmgaaDoor
/- Two calls of a drawn region that may come up in either order, each making memory of its own: what each yields holds on in every later world, and the walk goes on once. No condition. -/
namespace Go.Proofs.YtcpokkkdmenmgaaDoor
open Go.RowKit
section
variable {P : Program} {Q : Exit → Act → World → Prop} {md : Region.Mode}
/-- An operation, carried out in any later world, yields what S says. -/
def YieldsS (P : Program) (Q : Exit → Act → World → Prop) (ops : Array Oper) (w0 : World) (o : Oper) (a : Act) (S : Value → World → Prop) : Prop :=
  ∀ l : Later w0, ∀ K : Act → World → Prop, (∀ v w', LaterThan l.w w' → S v w' → K (a.put o.dst v) w') →
    if Region.wanted o (yielded ops a.tmps) then o.wp P a l.w K Q else K (a.put o.dst undef) l.w
theorem wpE_pair (i j : Nat) (Si Sj : Value → World → Prop) {L : List Oper} {oi oj : Oper} {ri rj : List Oper} {fuel : Nat} {listed : Array Bool} {a : Act} {w : World}
    (hi : L.drop i = oi :: ri) (hj : L.drop j = oj :: rj) (hrd : Region.ready md L.toArray listed = [i, j])
    (hrdi : Region.ready md L.toArray (listed.setIfInBounds i true) = [j]) (hrdj : Region.ready md L.toArray (listed.setIfInBounds j true) = [i])
    (hij : (i == j) = false) (hc : ∀ u v, (a.put oj.dst v).put oi.dst u = (a.put oi.dst u).put oj.dst v)
    (hsi : ∀ v w1 w2, LaterThan w1 w2 → Si v w1 → Si v w2) (hsj : ∀ v w1 w2, LaterThan w1 w2 → Sj v w1 → Sj v w2)
    (hi1 : YieldsS P Q L.toArray w oi a Si) (hj1 : YieldsS P Q L.toArray w oj a Sj)
    (hi2 : ∀ v, YieldsS P Q L.toArray w oi (a.put oj.dst v) Si) (hj2 : ∀ u, YieldsS P Q L.toArray w oj (a.put oi.dst u) Sj)
    (hK : ∀ u v, ∀ l : Later w, Si u l.w → Sj v l.w → wpE P md L.toArray Q LaterThan fuel ((listed.setIfInBounds i true).setIfInBounds j true) ((a.put oi.dst u).put oj.dst v) l.w) :
    wpE P md L.toArray Q LaterThan (fuel + 2) listed a w := by
  have hne : i ≠ j := by simpa using hij
  refine wpE_two i j (at_drop hi) (at_drop hj) hrd (fun w1 hw1 K hKK => ?_) (fun w1 hw1 K hKK => ?_)
  · refine hi1 ⟨w1, hw1⟩ K fun u w2 h2 hu => hKK _ _ h2 ?_
    refine wpE_one j (at_drop hj) hrdi fun w3 hw3 K' hKK' => ?_
    refine hj2 u ⟨w3, lt_trans _ _ _ hw1 (lt_trans _ _ _ h2 hw3)⟩ K' fun v w4 h4 hv => hKK' _ _ h4 ?_
    exact hK u v ⟨w4, lt_trans _ _ _ hw1 (lt_trans _ _ _ h2 (lt_trans _ _ _ hw3 h4))⟩ (hsi _ _ _ (lt_trans _ _ _ hw3 h4) hu) hv
  · refine hj1 ⟨w1, hw1⟩ K fun v w2 h2 hv => hKK _ _ h2 ?_
    refine wpE_one i (at_drop hi) hrdj fun w3 hw3 K' hKK' => ?_
    refine hi2 v ⟨w3, lt_trans _ _ _ hw1 (lt_trans _ _ _ h2 hw3)⟩ K' fun u w4 h4 hu => hKK' _ _ h4 ?_
    have h := hK u v ⟨w4, lt_trans _ _ _ hw1 (lt_trans _ _ _ h2 (lt_trans _ _ _ hw3 h4))⟩ hu (hsj _ _ _ (lt_trans _ _ _ hw3 h4) hv)
    rw [hc, Array.setIfInBounds_comm _ _ (Ne.symm hne)]
    exact h
end
end Go.Proofs.YtcpokkkdmenmgaaDoor
/- Single steps of regions: an operation of a known value; one that its guard leaves out. No condition. -/
namespace Go.Proofs.YtcpokkkdmenmgaaDoor
open Go.RowKit
section
variable {P : Program} {ops : Array Oper} {Q : Exit → Act → World → Prop} {a : Act} {w : World} {rest : List Oper} {op : Oper}
theorem wpl_val (v : Value) (hw : Region.wanted op (yielded ops a.tmps) = true) (hv : (execOp a.eval op).run P w = .ok (.value v) w) (h : wpList P ops Q rest (a.put op.dst v) w) : wpList P ops Q (op :: rest) a w := wpList_step fun K hK => by
  rw [if_pos hw]
  unfold Oper.wp
  rw [hv]
  exact hK _ _ h
theorem wpl_skip (hw : Region.wanted op (yielded ops a.tmps) = false) (h : wpList P ops Q rest (a.put op.dst undef) w) : wpList P ops Q (op :: rest) a w := wpList_step fun K hK => by
  rw [if_neg (by rw [hw]; exact Bool.false_ne_true)]
  exact hK _ _ h
theorem wpQE_skip {w0 : World} {Q : Act → Prop} (hw : Region.wanted op (yielded ops a.tmps) = false) (h : wpQE P ops w0 Q rest (a.put op.dst undef)) : wpQE P ops w0 Q (op :: rest) a := wpQE_step fun K hK => by
  rw [if_neg (by rw [hw]; exact Bool.false_ne_true)]
  exact hK _ h
/-- Are all these left out by their guards, one behind the other? -/
def skipB (ops : Array Oper) : List Oper → Act → Bool
  | [], _ => true
  | o :: l, a => !(Region.wanted o (yielded ops a.tmps)) && skipB ops l (a.put o.dst undef)
def putU : List Oper → Act → Act
  | [], a => a
  | o :: l, a => putU l (a.put o.dst undef)
theorem wpQE_skips {w0 : World} {Q : Act → Prop} : ∀ (l rest : List Oper) (a : Act), skipB ops l a = true → wpQE P ops w0 Q rest (putU l a) → wpQE P ops w0 Q (l ++ rest) a
  | [], _, _, _, h => h
  | o :: l, rest, a, hs, h => by
    unfold skipB at hs
    rw [Bool.and_eq_true, Bool.not_eq_true'] at hs
    exact wpQE_skip hs.1 (wpQE_skips l rest _ hs.2 h)
/-- A step of a known value, and then as many as are left out by their guards (one by one they cost a minute each: the goal would be a step that is not wanted). -/
theorem wpQE_val_skip {w0 : World} {Q : Act → Prop} (v : Value) (k : Nat) (hw : Region.wanted op (yielded ops a.tmps) = true) (hv : ∀ l : Later w0, (execOp a.eval op).run P l.w = .ok (.value v) l.w)
    (hs : skipB ops (rest.take k) (a.put op.dst v) = true) (h : wpQE P ops w0 Q (rest.drop k) (putU (rest.take k) (a.put op.dst v))) : wpQE P ops w0 Q (op :: rest) a := wpQE_step fun K hK => by
  rw [if_pos hw]
  refine ⟨v, fun l => ?_, hK _ ?_⟩
  · rw [hv l]
    exact ⟨rfl, lt_refl _⟩
  · have := wpQE_skips (P := P) (w0 := w0) (Q := Q) (rest.take k) (rest.drop k) (a.put op.dst v) hs h
    rwa [List.take_append_drop] at this
end
end Go.Proofs.YtcpokkkdmenmgaaDoor
/- Words on memory that a call makes: slices that read as values, append onto a row of the call's own. Conditions: sizes below 2^40. -/
namespace Go.Proofs.YtcpokkkdmenmgaaDoor
open Go.RowKit Go.ChangeShapes Go.WideShapes Go.ChangeAt Go.Deep

/-- The slice '.slice A n c' reads as the cells vs (size cells an element), below block B. -/
def IsV (w : World) (B size : Nat) (A : Option Addr) (n : Nat) (vs : List Value) : Prop :=
  vs.length = n * size ∧ (0 < n → ∃ b off, A = some ⟨b, off, none⟩ ∧ b < B ∧ ∀ i (h : i < vs.length), w.cell? ⟨b, off + i, none⟩ = some vs[i])
section
variable {w w' : World} {B B' size n : Nat} {A : Option Addr} {vs : List Value}
theorem IsV.nil (w : World) (B size : Nat) (A : Option Addr) : IsV w B size A 0 [] := ⟨by simp, fun h => absurd h (by omega)⟩
theorem IsV.keep (h : IsV w B size A n vs) (hk : ∀ p : Addr, p.block < B → w'.cell? p = w.cell? p) : IsV w' B size A n vs :=
  ⟨h.1, fun hn => by
    obtain ⟨b, off, e, hb, hc⟩ := h.2 hn
    exact ⟨b, off, e, hb, fun i hi => (hk _ hb).trans (hc i hi)⟩⟩
theorem IsV.more (h : IsV w B size A n vs) (hB : B ≤ B') : IsV w B' size A n vs :=
  ⟨h.1, fun hn => by
    obtain ⟨b, off, e, hb, hc⟩ := h.2 hn
    exact ⟨b, off, e, by omega, hc⟩⟩
theorem IsV.below (h : IsV w B size A n vs) (hb : Below B w w') : IsV w' B size A n vs := h.keep fun _ hp => hb.cell hp
theorem IsV.on (h : IsV w w.heap.size size A n vs) (hb : Below w.heap.size w w') : IsV w' w'.heap.size size A n vs := (h.below hb).more hb.size
theorem IsB.vals {xs : List UInt8} (h : IsB w B A n xs) : IsV w B 1 A n (xs.map u8v) :=
  ⟨by simp [h.1], fun hn => by
    obtain ⟨b, off, e, hb, hc⟩ := h.2 hn
    exact ⟨b, off, e, hb, fun i hi => by rw [List.length_map] at hi; rw [hc i hi, List.getElem_map]⟩⟩
/-- A block of the call's own that has just been made, as a source. -/
theorem IsV.lit (w : World) (t : TypeId) (vs : List Value) (_c m : Nat) (hc : vs.length = m * size) : IsV (w.alloc (.cells vs.toArray t)) (w.heap.size + 1) size (some ⟨w.heap.size, 0, none⟩) m vs :=
  ⟨hc, fun _ => ⟨_, 0, rfl, by omega, fun i hi => by
    rw [blk_cell (blk_new w t vs.toArray) (0 + i)]
    simp [hi]⟩⟩
end

section
variable {P : Program} (w : World)
theorem append_nothing (base : Nat) (t ty e : TypeId) (i : TypeInfo) (size : Nat) (ht : P.underlying t = some (.slice e)) (hi : P.info? e = some i)
    (v : Value) (n : Nat) (xs : List Value) (hown : w.ownsRow base e size v n xs) (c : Nat) (_A : Option Addr) : (Builtin.append_ #[t, t] ty #[v, .slice none 0 c]).run P w = .ok v w := by
  rcases hown.2 with ⟨rfl, rfl⟩ | ⟨g, cap, cur, rfl, _, _, hnc, _⟩
  · simp [Builtin.append_, run_underlying ht, sizeOf, typeInfo, hi, Builtin.lenOf, Builtin.firstCells]
  · simp [Builtin.append_, run_underlying ht, sizeOf, typeInfo, hi, Builtin.lenOf, Builtin.firstCells, hnc, storeCells]

theorem run_append_isv (base : Nat) (t ty e : TypeId) (i : TypeInfo) (z : Value) (size bytes : Nat) (ht : P.underlying t = some (.slice e)) (hi : P.info? e = some i) (hz : i.zero = some z)
    (hsize : i.size = size) (hby : i.bytes = bytes) (hzs : z.cells.size = size) (hsz : 0 < size)
    (v : Value) (n : Nat) (xs : List Value) (hown : w.ownsRow base e size v n xs)
    (B : Nat) (A : Option Addr) (m c : Nat) (news : List Value) (hr : IsV w B size A m news) (h1 : ∀ u ∈ news, u.oneCell' = true)
    (h63 : n + m ≤ maxLen) (hbytes : (n + m) * bytes ≤ 140737488355328) (hbase : base ≤ w.heap.size) :
    ∃ v' w', (Builtin.append_ #[t, t] ty #[v, .slice A m c]).run P w = .ok v' w' ∧ w'.ownsRow base e size v' (n + m) (xs ++ news) ∧ w.grownBy w' v.ownBlock ∧
      (v'.ownBlock = v.ownBlock ∨ v'.ownBlock = some w.heap.size) := by
  have hzero : m = 0 → news = [] := fun h0 => List.eq_nil_of_length_eq_zero (by rw [hr.1, h0]; simp)
  rcases A with _ | ad
  · have hm : m = 0 := by
      rcases Nat.eq_zero_or_pos m with h0 | h0
      · exact h0
      · obtain ⟨_, _, h, _⟩ := hr.2 h0
        cases h
    have hn := hzero hm
    subst hm hn
    exact ⟨v, w, append_nothing w base t ty e i size ht hi v n xs hown c none, by simpa using hown, World.grownBy.refl w _, .inl rfl⟩
  · have hcells : ∀ j u, news[j]? = some u → w.cell? (ad.add j) = some u := by
      intro j u hu
      rcases Nat.eq_zero_or_pos m with h0 | h0
      · rw [hzero h0] at hu
        cases hu
      · obtain ⟨b, off, h, _, hc⟩ := hr.2 h0
        cases h
        obtain ⟨hj, rfl⟩ := List.getElem?_eq_some_iff.1 hu
        rw [← hc j hj]
        congr 1
        unfold Addr.add
        split
        · rename_i h0; subst h0; rfl
        · rfl
    obtain ⟨v', w', hrun, h2, h3, _, h5⟩ := run_append_own_at (P := P) w base t ty e i z size bytes ht hi hz hsize hby hzs hsz v n xs hown ad m c news hr.1 hcells h1 h63 hbytes hbase
    exact ⟨v', w', hrun, h2, h3, h5⟩

theorem wp_append_isv {o : Oper} {a : Act} {K : Act → World → Prop} {Q : Exit → Act → World → Prop} (s x : Operand) (t : TypeId)
    (ho : o.op = .call { callee := .builtin .append, args := #[s, x], argTypes := #[t, t] })
    (base : Nat) (e : TypeId) (i : TypeInfo) (z : Value) (size bytes : Nat) (ht : P.underlying t = some (.slice e)) (hi : P.info? e = some i) (hz : i.zero = some z)
    (hsize : i.size = size) (hby : i.bytes = bytes) (hzs : z.cells.size = size) (hsz : 0 < size)
    (v : Value) (n : Nat) (xs : List Value) (hs : a.eval s = v) (hown : w.ownsRow base e size v n xs)
    (B : Nat) (A : Option Addr) (m c : Nat) (news : List Value) (hx : a.eval x = .slice A m c) (hr : IsV w B size A m news) (h1 : ∀ u ∈ news, u.oneCell' = true)
    (h63 : n + m ≤ maxLen) (hbytes : (n + m) * bytes ≤ 140737488355328) (hbase : base ≤ w.heap.size)
    (h : ∀ v' w', w'.ownsRow base e size v' (n + m) (xs ++ news) → w.grownBy w' v.ownBlock → (v'.ownBlock = v.ownBlock ∨ v'.ownBlock = some w.heap.size) → K (a.put o.dst v') w') : o.wp P a w K Q := by
  obtain ⟨v', w', hrun, h2, h3, h4⟩ := run_append_isv (P := P) w base t o.type e i z size bytes ht hi hz hsize hby hzs hsz v n xs hown B A m c news hr h1 h63 hbytes hbase
  unfold Oper.wp execOp
  simp only [ho, resolve, invoke, builtin, Sem.run_bind, Sem.run_pure, Result.andThen_ok, List.map_toArray, List.map_cons, List.map_nil, hs, hx, hrun]
  exact h v' w' h2 h3 h4

theorem wpl_append {ops : Array Oper} {rest : List Oper} {o : Oper} {a : Act} {Q : Exit → Act → World → Prop} (hgd : o.guard = none) (s x : Operand) (t : TypeId)
    (ho : o.op = .call { callee := .builtin .append, args := #[s, x], argTypes := #[t, t] })
    (base : Nat) (e : TypeId) (i : TypeInfo) (z : Value) (size bytes : Nat) (ht : P.underlying t = some (.slice e)) (hi : P.info? e = some i) (hz : i.zero = some z)
    (hsize : i.size = size) (hby : i.bytes = bytes) (hzs : z.cells.size = size) (hsz : 0 < size)
    (v : Value) (n : Nat) (xs : List Value) (hs : a.eval s = v) (hown : w.ownsRow base e size v n xs)
    (B : Nat) (A : Option Addr) (m c : Nat) (news : List Value) (hx : a.eval x = .slice A m c) (hr : IsV w B size A m news) (h1 : ∀ u ∈ news, u.oneCell' = true)
    (h63 : n + m ≤ maxLen) (hbytes : (n + m) * bytes ≤ 140737488355328) (hbase : base ≤ w.heap.size)
    (h : ∀ v' w', w'.ownsRow base e size v' (n + m) (xs ++ news) → w.grownBy w' v.ownBlock → (v'.ownBlock = v.ownBlock ∨ v'.ownBlock = some w.heap.size) → wpList P ops Q rest (a.put o.dst v') w') : wpList P ops Q (o :: rest) a w :=
  wpList_plain hgd fun _ hK => wp_append_isv w s x t ho base e i z size bytes ht hi hz hsize hby hzs hsz v n xs hs hown B A m c news hx hr h1 h63 hbytes hbase fun v' w' h2 h3 h4 => hK _ _ (h v' w' h2 h3 h4)
end

/-! ### Rows of bytes and of ints -/
theorem info_u8 : (Tryd.prog.info? 5).map (fun i => (i.zero, i.size, i.bytes)) = some (some (.int .u8 0), 1, 1) := by kernel_rfl
theorem info_int : (Tryd.prog.info? 3).map (fun i => (i.zero, i.size, i.bytes)) = some (some (.int .i64 0), 1, 8) := by kernel_rfl
def OwnB (w : World) (base : Nat) (v : Value) (xs : List UInt8) : Prop := w.ownsRow base 5 1 v xs.length (xs.map u8v)
def OwnI (w : World) (base : Nat) (v : Value) (xs : List Int) : Prop := w.ownsRow base 3 1 v xs.length (xs.map (Value.int .i64))
theorem u8v_one (xs : List UInt8) : ∀ u ∈ xs.map u8v, u.oneCell' = true := by
  intro u hu
  obtain ⟨_, _, rfl⟩ := List.mem_map.1 hu
  rfl
section
variable {w w' : World} {base : Nat} {v : Value}
theorem OwnB.nil (w : World) (base : Nat) : OwnB w base (.slice none 0 0) [] := World.ownsRow_nil w base _ 1
theorem OwnI.nil (w : World) (base : Nat) : OwnI w base (.slice none 0 0) [] := World.ownsRow_nil w base _ 1
theorem OwnB.lt {xs : List UInt8} (h : OwnB w base v xs) : ∀ k, v.ownBlock = some k → base ≤ k ∧ k < w.heap.size := World.ownsRow.lt h
/-- What an owned row's value is, and that it reads as its cells. -/
theorem own_isv {e : TypeId} {size n : Nat} {xs : List Value} (h : w.ownsRow base e size v n xs) : ∃ A c, v = .slice A n c ∧ n ≤ c ∧ c ≤ maxLen ∧ IsV w w.heap.size size A n xs := by
  rcases h.2 with ⟨rfl, h0⟩ | ⟨g, cap, cur, rfl, hg, hh, hn, hm, hs, ht⟩
  · exact ⟨none, 0, by rw [h0], by omega, by omega, h.1, fun hp => by omega⟩
  · refine ⟨some ⟨g, 0, none⟩, cap, rfl, hn, hm, h.1, fun hp => ⟨g, 0, rfl, ?_, fun i hi => ?_⟩⟩
    · rcases Nat.lt_or_ge g w.heap.size with h' | h'
      · exact h'
      · rw [Array.getElem?_eq_none h'] at hh; cases hh
    · have h1 : xs[i]? = cur[i]? := by
        rw [← ht, List.getElem?_take_of_lt (by rw [← h.1]; exact hi)]
        simp
      rw [blk_cell hh (0 + i), Nat.zero_add, ← h1, List.getElem?_eq_getElem hi]
theorem IsV.bytes {B n : Nat} {A : Option Addr} {xs : List UInt8} (h : IsV w B 1 A n (xs.map u8v)) : IsB w B A n xs :=
  ⟨by simpa using h.1, fun hn => by
    obtain ⟨b, off, e, hb, hc⟩ := h.2 hn
    refine ⟨b, off, e, hb, fun i hi => ?_⟩
    have := hc i (by simpa using hi)
    rw [List.getElem_map] at this
    exact this⟩
/-- What its value is, and that it reads as its bytes. -/
theorem OwnB.form {xs : List UInt8} (h : OwnB w base v xs) : ∃ A c, v = .slice A xs.length c ∧ xs.length ≤ c ∧ c ≤ maxLen ∧ IsB w w.heap.size A xs.length xs := by
  obtain ⟨A, c, e, h1, h2, h3⟩ := own_isv h
  exact ⟨A, c, e, h1, h2, h3.bytes⟩
theorem OwnI.form {xs : List Int} (h : OwnI w base v xs) : ∃ A c, v = .slice A xs.length c ∧ xs.length ≤ c ∧ c ≤ maxLen ∧ IsV w w.heap.size 1 A xs.length (xs.map (Value.int .i64)) := own_isv h
/-- What stands written out ('[]byte{..}') is a row of the call's own. -/
theorem OwnB.lit (w : World) (base : Nat) (ys : List UInt8) (hb : base ≤ w.heap.size) (hl : ys.length ≤ 1099511627776) : OwnB (w.alloc (.cells (ys.map u8v).toArray 5)) base (.slice (some ⟨w.heap.size, 0, none⟩) ys.length ys.length) ys :=
  ⟨by simp, .inr ⟨w.heap.size, ys.length, (ys.map u8v).toArray, rfl, hb, heap_alloc_new w _, Nat.le_refl _, by unfold maxLen; omega, by simp, by simp [List.take_of_length_le]⟩⟩
theorem u8v_nat (t : Nat) (h : t ≤ 255) : u8v (UInt8.ofNat t) = .int .u8 (t : Int) := by
  unfold u8v
  rw [UInt8.toNat_ofNat', Nat.mod_eq_of_lt (by omega)]
theorem OwnB.litv (w : World) (base : Nat) (vals : List Value) (ys : List UInt8) (m : Nat) (hv : vals = ys.map u8v) (hm : ys.length = m) (hb : base ≤ w.heap.size) (hl : m ≤ 1099511627776) : OwnB (w.alloc (.cells vals.toArray 5)) base (.slice (some ⟨w.heap.size, 0, none⟩) m m) ys := by
  subst hv hm
  exact OwnB.lit w base ys hb hl
theorem OwnB.empty (w : World) (base : Nat) (hb : base ≤ w.heap.size) : OwnB (w.alloc (.cells #[] 5)) base (.slice (some ⟨w.heap.size, 0, none⟩) 0 0) [] := OwnB.lit w base [] hb (by simp)
theorem OwnB.emptyAt (w : World) (b : Nat) (hw : w.heap.size = b) (base : Nat) (hb : base ≤ b) : OwnB (w.alloc (.cells #[] 5)) base (.slice (some ⟨b, 0, none⟩) 0 0) [] := by subst hw; exact OwnB.empty w base hb
theorem OwnB.reads {A : Option Addr} {n c : Nat} {xs : List UInt8} (h : OwnB w base (.slice A n c) xs) : xs.length = n ∧ n ≤ c ∧ c ≤ maxLen ∧ IsB w w.heap.size A n xs := by
  obtain ⟨A', c', e, h1, h2, h3⟩ := h.form
  cases e
  exact ⟨rfl, h1, h2, h3⟩
theorem grown_refl (w : World) (row : Option Nat) : w.grownBy w row := ⟨rfl, rfl, rfl, Nat.le_refl _, fun _ _ _ => rfl⟩
theorem grown_set {a : World} {g : Nat} (h : a.grownBy w (some g)) {p : Addr} (hp : p.block = g) (u : Value) : a.grownBy (w.setCell p u) (some g) :=
  ⟨h.os, h.tape, h.output, by simpa [World.setCell] using h.size, fun k hk hne => (Below.heap_setCell w p u k (fun e => hne (by rw [e, hp]))).trans (h.block k hk hne)⟩
theorem OwnB.store {g n c : Nat} {xs : List UInt8} (h : OwnB w base (.slice (some ⟨g, 0, none⟩) n c) xs) (j : Nat) (y : UInt8) : OwnB (w.setCell ⟨g, j, none⟩ (u8v y)) base (.slice (some ⟨g, 0, none⟩) n c) (xs.set j y) := by
  have hl := h.reads.1
  subst hl
  have h1 := (World.ownsRow.stored h j (u8v y)).1
  unfold OwnB
  rw [List.length_set, List.map_set]
  exact h1
theorem OwnB.weaken {base' : Nat} {xs : List UInt8} (h : OwnB w base v xs) (hb : base' ≤ base) : OwnB w base' v xs :=
  ⟨h.1, h.2.imp id fun ⟨g, cap, cur, h1, h2, h3⟩ => ⟨g, cap, cur, h1, Nat.le_trans hb h2, h3⟩⟩
theorem OwnB.kept {xs : List UInt8} {row : Option Nat} (h : OwnB w base v xs) (hg : w.grownBy w' row) (hne : v.ownBlock = none ∨ v.ownBlock ≠ row) : OwnB w' base v xs := World.ownsRow.kept h hg hne
theorem OwnB.alloc {xs : List UInt8} (h : OwnB w base v xs) (o : Obj) : OwnB (w.alloc o) base v xs := World.ownsRow.alloc h o
theorem OwnI.alloc {xs : List Int} (h : OwnI w base v xs) (o : Obj) : OwnI (w.alloc o) base v xs := World.ownsRow.alloc h o
theorem OwnB.below {xs : List UInt8} (h : OwnB w base v xs) (hb : Below w.heap.size w w') : OwnB w' base v xs :=
  h.kept (row := none) ⟨hb.os, hb.tape, hb.output, hb.size, fun k hk _ => hb.block k hk⟩ (by cases v.ownBlock <;> simp)
end

/-- append of bytes onto a row of bytes of the call's own. -/
theorem wpl_append_b (w : World) {ops : Array Oper} {rest : List Oper} {o : Oper} {a : Act} {Q : Exit → Act → World → Prop} (hgd : o.guard = none) (s x : Operand)
    (ho : o.op = .call { callee := .builtin .append, args := #[s, x], argTypes := #[116, 116] })
    (base : Nat) (v : Value) (xs : List UInt8) (hs : a.eval s = v) (hown : OwnB w base v xs) (hbase : base ≤ w.heap.size)
    (B : Nat) (A : Option Addr) (m c : Nat) (ys : List UInt8) (hx : a.eval x = .slice A m c) (hr : IsV w B 1 A m (ys.map u8v)) (hb : xs.length + m ≤ 1099511627776)
    (h : ∀ v' w', OwnB w' base v' (xs ++ ys) → w.grownBy w' v.ownBlock → (v'.ownBlock = v.ownBlock ∨ v'.ownBlock = some w.heap.size) → wpList Tryd.prog ops Q rest (a.put o.dst v') w') : wpList Tryd.prog ops Q (o :: rest) a w := by
  obtain ⟨i, hi, hz, hsz, hby⟩ := info_parts info_u8
  have hm : ys.length = m := by simpa using hr.1
  refine wpl_append w hgd s x 116 ho base 5 i _ 1 1 Tryd.underlying116 hi hz hsz hby rfl (by omega) v xs.length (xs.map u8v) hs hown B A m c (ys.map u8v) hx hr (u8v_one ys) (by unfold maxLen; omega) (by omega) hbase fun v' w' h1 h2 h3 => h v' w' ?_ h2 h3
  unfold OwnB
  rw [List.map_append, List.length_append, hm]
  exact h1
theorem wpl_append_i (w : World) {ops : Array Oper} {rest : List Oper} {o : Oper} {a : Act} {Q : Exit → Act → World → Prop} (hgd : o.guard = none) (s x : Operand)
    (ho : o.op = .call { callee := .builtin .append, args := #[s, x], argTypes := #[109, 109] })
    (base : Nat) (v : Value) (xs : List Int) (hs : a.eval s = v) (hown : OwnI w base v xs) (hbase : base ≤ w.heap.size)
    (B : Nat) (A : Option Addr) (m c : Nat) (ys : List Int) (hx : a.eval x = .slice A m c) (hr : IsV w B 1 A m (ys.map (Value.int .i64))) (hb : xs.length + m ≤ 1099511627776)
    (h : ∀ v' w', OwnI w' base v' (xs ++ ys) → w.grownBy w' v.ownBlock → (v'.ownBlock = v.ownBlock ∨ v'.ownBlock = some w.heap.size) → wpList Tryd.prog ops Q rest (a.put o.dst v') w') : wpList Tryd.prog ops Q (o :: rest) a w := by
  obtain ⟨i, hi, hz, hsz, hby⟩ := info_parts info_int
  have hm : ys.length = m := by simpa using hr.1
  refine wpl_append w hgd s x 109 ho base 3 i _ 1 8 Tryd.underlying109 hi hz hsz hby rfl (by omega) v xs.length (xs.map (Value.int .i64)) hs hown B A m c (ys.map (Value.int .i64)) hx hr (ints_oneCell .i64 ys) (by unfold maxLen; omega) (by omega) hbase fun v' w' h1 h2 h3 => h v' w' ?_ h2 h3
  unfold OwnI
  rw [List.map_append, List.length_append, hm]
  exact h1
/-! ### append of what stands written out (its block has just been made), and of a slice that reads; in the words of a walk -/
/-- Where the row lies now: where it lay, or in a block that is new since w. -/
def Moved (w : World) (v v' : Value) : Prop := v'.ownBlock = v.ownBlock ∨ ∃ k, v'.ownBlock = some k ∧ w.heap.size ≤ k
theorem below_of_grown {w w' : World} {base : Nat} {row : Option Nat} (hg : w.grownBy w' row) (hb : base ≤ w.heap.size) (hr : ∀ k, row = some k → base ≤ k) : Below base w w' := (Below.refl base w).grown hg hb hr
theorem grown_alloc_left {w w' : World} {o : Obj} {row : Option Nat} (hg : (w.alloc o).grownBy w' row) : w.grownBy w' row :=
  ⟨hg.os, hg.tape, hg.output, by have := hg.size; simp at this; omega, fun k hk hne => (hg.block k (by simp; omega) hne).trans (Below.heap_alloc w o k hk)⟩
theorem moved_mk {w : World} {o : Obj} {v v' : Value} (h : v'.ownBlock = v.ownBlock ∨ v'.ownBlock = some (w.alloc o).heap.size) : Moved w v v' := h.imp id fun e => ⟨_, e, by simp⟩
theorem moved_mk' {w : World} {v v' : Value} (h : v'.ownBlock = v.ownBlock ∨ v'.ownBlock = some w.heap.size) : Moved w v v' := h.imp id fun e => ⟨_, e, Nat.le_refl _⟩

/-- From (w, v) to (w', v'): a row of the call's own was appended to; only its block has turned, or it has moved to a new one. -/
structure Grew (w : World) (v : Value) (w' : World) (v' : Value) : Prop where
  grown : w.grownBy w' v.ownBlock
  moved : Moved w v v'
theorem Grew.refl (w : World) (v : Value) : Grew w v w v := ⟨grown_refl _ _, .inl rfl⟩
theorem Grew.trans {w w1 w2 : World} {v v1 v2 : Value} (h : Grew w v w1 v1) (k : Grew w1 v1 w2 v2) : Grew w v w2 v2 := by
  have hz := h.grown.size
  refine ⟨⟨k.grown.os.trans h.grown.os, k.grown.tape.trans h.grown.tape, k.grown.output.trans h.grown.output, Nat.le_trans hz k.grown.size, fun i hi hne => ?_⟩, ?_⟩
  · refine (k.grown.block i (by omega) ?_).trans (h.grown.block i hi hne)
    rcases h.moved with e | ⟨j, e, hj⟩
    · rw [e]; exact hne
    · rw [e]; intro e'; cases e'; omega
  · rcases k.moved with e | ⟨j, e, hj⟩
    · rcases h.moved with e' | ⟨j, e', hj⟩
      · exact .inl (e.trans e')
      · exact .inr ⟨j, e.trans e', hj⟩
    · exact .inr ⟨j, e, by omega⟩
theorem Grew.below {w w' : World} {v v' : Value} {base : Nat} {xs : List UInt8} (h : Grew w v w' v') (hown : OwnB w base v xs) (hb : base ≤ w.heap.size) : Below base w w' := below_of_grown h.grown hb fun k hk => (hown.lt k hk).1
theorem Grew.belowNil {w w' : World} {v' : Value} {n c : Nat} (h : Grew w (.slice none n c) w' v') : Below w.heap.size w w' := below_of_grown h.grown (Nat.le_refl _) fun k hk => by cases hk
/-- What lies elsewhere reads on as it did. -/
theorem Grew.keeps {w w' : World} {v v' u : Value} {base : Nat} {ys : List UInt8} (h : Grew w v w' v') (hu : OwnB w base u ys) (hne : u.ownBlock = none ∨ u.ownBlock ≠ v.ownBlock) : OwnB w' base u ys := hu.kept h.grown hne
theorem Grew.isB {w w' : World} {v v' : Value} {base B n : Nat} {A : Option Addr} {xs ys : List UInt8} (h : Grew w v w' v') (hown : OwnB w base v xs) (hb : base ≤ w.heap.size) (hi : IsB w B A n ys) (hB : B ≤ base) : IsB w' B A n ys := hi.below ((h.below hown hb).mono hB)

theorem wpl_lit_b {w : World} {t : TypeId} {ops : Array Oper} {rest : List Oper} {o : Oper} {a : Act} {Q : Exit → Act → World → Prop} (hgd : o.guard = none) (s x : Operand)
    (ho : o.op = .call { callee := .builtin .append, args := #[s, x], argTypes := #[116, 116] })
    (base : Nat) (v : Value) (xs ys : List UInt8) (c : Nat) (hs : a.eval s = v) (hx : a.eval x = .slice (some ⟨w.heap.size, 0, none⟩) ys.length c) (hown : OwnB w base v xs) (hbase : base ≤ w.heap.size) (hb : xs.length + ys.length ≤ 1099511627776)
    (h : ∀ v' w', OwnB w' base v' (xs ++ ys) → Below base w w' → w.grownBy w' v.ownBlock → Moved w v v' → wpList Tryd.prog ops Q rest (a.put o.dst v') w') : wpList Tryd.prog ops Q (o :: rest) a (w.alloc (.cells (ys.map u8v).toArray t)) :=
  wpl_append_b _ hgd s x ho base v xs hs (hown.alloc _) (by simp; omega) (w.heap.size + 1) _ ys.length c ys hx (IsV.lit w t _ c _ (by simp)) hb fun v' w' h1 h2 h3 =>
    h v' w' h1 (below_of_grown (grown_alloc_left h2) hbase fun k hk => (hown.lt k hk).1) (grown_alloc_left h2) (moved_mk h3)
/-- The same, the cells as the walk spells them. -/
theorem wpl_lit_bv {w : World} {t : TypeId} {vals : List Value} {ops : Array Oper} {rest : List Oper} {o : Oper} {a : Act} {Q : Exit → Act → World → Prop} (hgd : o.guard = none) (s x : Operand)
    (ho : o.op = .call { callee := .builtin .append, args := #[s, x], argTypes := #[116, 116] })
    (base : Nat) (v : Value) (xs ys : List UInt8) (m c : Nat) (hs : a.eval s = v) (hx : a.eval x = .slice (some ⟨w.heap.size, 0, none⟩) m c) (hv : vals = ys.map u8v) (hm : ys.length = m) (hown : OwnB w base v xs) (hbase : base ≤ w.heap.size) (hb : xs.length + m ≤ 1099511627776)
    (h : ∀ v' w', OwnB w' base v' (xs ++ ys) → Grew w v w' v' → wpList Tryd.prog ops Q rest (a.put o.dst v') w') : wpList Tryd.prog ops Q (o :: rest) a (w.alloc (.cells vals.toArray t)) := by
  subst hv hm
  exact wpl_lit_b hgd s x ho base v xs ys c hs hx hown hbase hb fun v' w' h1 _ h3 h4 => h v' w' h1 ⟨h3, h4⟩
theorem wpl_src_bv {w : World} {ops : Array Oper} {rest : List Oper} {o : Oper} {a : Act} {Q : Exit → Act → World → Prop} (hgd : o.guard = none) (s x : Operand)
    (ho : o.op = .call { callee := .builtin .append, args := #[s, x], argTypes := #[116, 116] })
    (base : Nat) (v : Value) (xs ys : List UInt8) (A : Option Addr) (m c B : Nat) (hs : a.eval s = v) (hx : a.eval x = .slice A m c) (hown : OwnB w base v xs) (hr : IsB w B A m ys) (hbase : base ≤ w.heap.size) (hb : xs.length + m ≤ 1099511627776)
    (h : ∀ v' w', OwnB w' base v' (xs ++ ys) → Grew w v w' v' → wpList Tryd.prog ops Q rest (a.put o.dst v') w') : wpList Tryd.prog ops Q (o :: rest) a w :=
  wpl_append_b _ hgd s x ho base v xs hs hown hbase B A m c ys hx hr.vals hb fun v' w' h1 h2 h3 => h v' w' h1 ⟨h2, moved_mk' h3⟩
theorem wpl_lit_i {w : World} {t : TypeId} {ops : Array Oper} {rest : List Oper} {o : Oper} {a : Act} {Q : Exit → Act → World → Prop} (hgd : o.guard = none) (s x : Operand)
    (ho : o.op = .call { callee := .builtin .append, args := #[s, x], argTypes := #[109, 109] })
    (base : Nat) (v : Value) (xs ys : List Int) (c : Nat) (hs : a.eval s = v) (hx : a.eval x = .slice (some ⟨w.heap.size, 0, none⟩) ys.length c) (hown : OwnI w base v xs) (hbase : base ≤ w.heap.size) (hb : xs.length + ys.length ≤ 1099511627776)
    (h : ∀ v' w', OwnI w' base v' (xs ++ ys) → Below base w w' → w.grownBy w' v.ownBlock → Moved w v v' → wpList Tryd.prog ops Q rest (a.put o.dst v') w') : wpList Tryd.prog ops Q (o :: rest) a (w.alloc (.cells (ys.map (Value.int .i64)).toArray t)) :=
  wpl_append_i _ hgd s x ho base v xs hs (hown.alloc _) (by simp; omega) (w.heap.size + 1) _ ys.length c ys hx (IsV.lit w t _ c _ (by simp)) hb fun v' w' h1 h2 h3 =>
    h v' w' h1 (below_of_grown (grown_alloc_left h2) hbase fun k hk => (World.ownsRow.lt hown k hk).1) (grown_alloc_left h2) (moved_mk h3)
theorem wpl_src_b {w : World} {ops : Array Oper} {rest : List Oper} {o : Oper} {a : Act} {Q : Exit → Act → World → Prop} (hgd : o.guard = none) (s x : Operand)
    (ho : o.op = .call { callee := .builtin .append, args := #[s, x], argTypes := #[116, 116] })
    (base : Nat) (v : Value) (xs ys : List UInt8) (A : Option Addr) (m c B : Nat) (hs : a.eval s = v) (hx : a.eval x = .slice A m c) (hown : OwnB w base v xs) (hr : IsB w B A m ys) (hbase : base ≤ w.heap.size) (hb : xs.length + m ≤ 1099511627776)
    (h : ∀ v' w', OwnB w' base v' (xs ++ ys) → Below base w w' → w.grownBy w' v.ownBlock → Moved w v v' → wpList Tryd.prog ops Q rest (a.put o.dst v') w') : wpList Tryd.prog ops Q (o :: rest) a w :=
  wpl_append_b _ hgd s x ho base v xs hs hown hbase B A m c ys hx hr.vals hb fun v' w' h1 h2 h3 =>
    h v' w' h1 (below_of_grown h2 hbase fun k hk => (hown.lt k hk).1) h2 (moved_mk' h3)
end Go.Proofs.YtcpokkkdmenmgaaDoor
/- How the arguments of the statements are opened: bytes, numbers, structs. No condition. -/
namespace Go.Proofs.YtcpokkkdmenmgaaDoor
open Go.RowKit Go.ChangeShapes Go.WideShapes Go.ChangeAt Go.Deep
theorem own : ownKnob Tryd.prog.godebug = none := by kernel_rfl
theorem laidOut : laidOutB Tryd.prog = true := by kernel_rfl
section
variable {H : Type} {enc : TypeId × Value → H} {w : World} {spare : Nat → Bool} {held : Bool}
theorem open_bytes {m : Nat} {v : Value} {y : DataW H × List MemPlace} (h : DataW.trod enc Tryd.prog w 0 spare held m 116 [v] = some y) :
    ∃ A n c xs, v = .slice A n c ∧ IsB w w.heap.size A n xs ∧ n ≤ c ∧ c ≤ maxLen := by
  rcases open_ints Tryd.underlying116 Tryd.underlying5 (by kernel_rfl) h with ⟨hcs, _⟩ | ⟨a, l, c, zs, hcs, _, hl, hm, hz, _, hcell, hwz⟩
  · cases hcs
    exact ⟨none, 0, 0, [], rfl, IsB.nil _ _ _, Nat.le_refl _, by omega⟩
  · cases hcs
    have hlz : l ≤ zs.length := by rw [hz]; split <;> omega
    refine ⟨some a, l, c, (zs.take l).map fun z => UInt8.ofNat z.toNat, rfl, ⟨by rw [List.length_map, List.length_take]; omega, fun hp => ?_⟩, hl, hm⟩
    obtain ⟨b, off, spot⟩ := a
    have h0 := hcell 0 (by omega)
    have hspot : spot = none := by simpa [Addr.add] using World.cell?_spot h0
    subst hspot
    refine ⟨b, off, rfl, by simpa [Addr.add] using World.block_lt_of_cell? w _ h0, fun i hi => ?_⟩
    have hi' : i < l := by rw [List.length_map, List.length_take] at hi; omega
    have h1 := hcell i (by omega)
    rw [show (Addr.add ⟨b, off, none⟩ i : Addr) = ⟨b, off + i, none⟩ by unfold Addr.add; split <;> simp_all] at h1
    have hg : zs.getD i 0 = zs[i]'(by omega) := by simp [List.getD, show i < zs.length by omega]
    rw [h1, hg]
    have hw := u8_wf (hwz _ (List.getElem_mem (by omega : i < zs.length)))
    simp only [List.getElem_map, List.getElem_take, u8v]
    congr 2
    simp only [UInt8.toNat_ofNat']
    omega
theorem open_i64 {m : Nat} {v : Value} {y : DataW H × List MemPlace} (h : DataW.trod enc Tryd.prog w 0 spare held m 3 [v] = some y) : ∃ n : Int, v = .int .i64 n ∧ (Lit.int .i64 n).wf = true := by
  obtain ⟨n, e, _, hw⟩ := DataW.trod_int Tryd.underlying3 h
  cases e
  exact ⟨n, rfl, hw⟩
theorem open_bool' {m : Nat} {v : Value} {y : DataW H × List MemPlace} (h : DataW.trod enc Tryd.prog w 0 spare held m 4 [v] = some y) : ∃ b : Bool, v = .bool b := by
  obtain ⟨n, e, _⟩ := DataW.trod_bool Tryd.underlying4 h
  cases e
  exact ⟨n, rfl⟩
/-! ### A slice of whatever elements, each of so many cells -/
theorem add_plain (b off k : Nat) : Addr.add ⟨b, off, none⟩ k = ⟨b, off + k, none⟩ := by unfold Addr.add; split <;> simp_all
theorem flat_get (s : Nat) : ∀ (rows : List (List Value)), (∀ r ∈ rows, r.length = s) → ∀ i j, j < s → rows.flatten[i * s + j]? = (rows[i]?).bind (·[j]?)
  | [], _, i, j, _ => by simp
  | r :: rows, h, 0, j, hj => by
    have hr := h r (by simp)
    simp only [Nat.zero_mul, Nat.zero_add, List.flatten_cons]
    rw [List.getElem?_append_left (by omega)]
    simp
  | r :: rows, h, i + 1, j, hj => by
    have hr := h r (by simp)
    have ih := flat_get s rows (fun x hx => h x (by simp [hx])) i j hj
    rw [List.flatten_cons, List.getElem?_append_right (by rw [hr, Nat.succ_mul]; omega), show (i + 1) * s + j - r.length = i * s + j by rw [hr, Nat.succ_mul]; omega, ih]
    simp
theorem flat_len (s : Nat) : ∀ (rows : List (List Value)), (∀ r ∈ rows, r.length = s) → rows.flatten.length = rows.length * s
  | [], _ => by simp
  | r :: rows, h => by
    rw [List.flatten_cons, List.length_append, h r (by simp), flat_len s rows (fun x hx => h x (by simp [hx])), List.length_cons, Nat.succ_mul]; omega
theorem open_rows {t e size : Nat} (F : List Value → Prop) (ht : Tryd.prog.underlying t = some (.slice e)) (hs : Tryd.prog.cellsOf e = size) (hpos : 0 < size)
    (hF : ∀ (n : Nat) (cs : List Value) (y : DataW H × List MemPlace), DataW.trod enc Tryd.prog w 0 spare held n e cs = some y → cs.length = size → F cs)
    {m : Nat} {v : Value} {y : DataW H × List MemPlace} (h : DataW.trod enc Tryd.prog w 0 spare held m t [v] = some y) :
    ∃ (A : Option Addr) (n c : Nat) (rows : List (List Value)), v = .slice A n c ∧ rows.length = n ∧ (∀ r ∈ rows, r.length = size ∧ F r) ∧ IsV w w.heap.size size A n rows.flatten ∧ n ≤ c ∧ c ≤ maxLen := by
  rcases open_slice ht h with ⟨hcs, _⟩ | ⟨a, len, cap, k, n, D, Pl, hcs, hb, hl, hm, hk, hx, hi⟩
  · cases hcs
    exact ⟨none, 0, 0, [], rfl, rfl, fun r hr => (by cases hr), IsV.nil _ _ _ _, Nat.le_refl _, by omega⟩
  · cases hcs
    have hlk : len ≤ k := by rw [hk]; split <;> omega
    have hex : ∀ i, ∃ cs : List Value, i < len → cs.length = size ∧ F cs ∧ ∀ j (hj : j < size), w.cell? ((a.add (i * size)).add j) = cs[j]? := by
      intro i
      by_cases hil : i < len
      · obtain ⟨cs', h1, h2⟩ := hi i (by omega)
        rw [hs] at h1
        obtain ⟨_, hcl, hat⟩ := World.cells?_some h1
        exact ⟨cs', fun _ => ⟨hcl, hF _ _ _ h2 hcl, fun j hj => hat j hj⟩⟩
      · exact ⟨[], fun h => absurd h hil⟩
    let R : Nat → List Value := fun i => Classical.choose (hex i)
    have hR : ∀ i, i < len → (R i).length = size ∧ F (R i) ∧ ∀ j (hj : j < size), w.cell? ((a.add (i * size)).add j) = (R i)[j]? := fun i => Classical.choose_spec (hex i)
    have hrow : ∀ r ∈ (List.range len).map R, r.length = size ∧ F r := by
      intro r hr
      obtain ⟨i, hi, rfl⟩ := List.mem_map.1 hr
      exact ⟨(hR i (List.mem_range.1 hi)).1, (hR i (List.mem_range.1 hi)).2.1⟩
    have hlen := flat_len size _ (fun r hr => (hrow r hr).1)
    rw [List.length_map, List.length_range] at hlen
    refine ⟨some a, len, cap, (List.range len).map R, rfl, by simp, hrow, ⟨hlen, fun hp => ?_⟩, hl, hm⟩
    obtain ⟨b, off, spot⟩ := a
    have h0 := (hR 0 hp).2.2 0 hpos
    have h00 : (R 0)[0]? = some ((R 0)[0]'(by rw [(hR 0 hp).1]; exact hpos)) := List.getElem?_eq_getElem _
    rw [h00] at h0
    simp only [Nat.zero_mul, Addr.add, if_true] at h0
    have hspot : spot = none := by simpa using World.cell?_spot h0
    subst hspot
    refine ⟨b, off, rfl, by simpa using World.block_lt_of_cell? w _ h0, fun i hi => ?_⟩
    rw [hlen] at hi
    have hdiv : i / size < len := Nat.div_lt_of_lt_mul (by rw [Nat.mul_comm]; exact hi)
    have hmod : i % size < size := Nat.mod_lt _ hpos
    have hsplit : i / size * size + i % size = i := by rw [Nat.mul_comm]; exact Nat.div_add_mod i size
    have h1 := (hR _ hdiv).2.2 _ hmod
    have h2 := flat_get size ((List.range len).map R) (fun r hr => (hrow r hr).1) (i / size) (i % size) hmod
    rw [hsplit, List.getElem?_map, List.getElem?_range hdiv] at h2
    simp only [Option.map_some, Option.bind_some] at h2
    rw [← h2, List.getElem?_eq_getElem (by rw [hlen]; exact hi)] at h1
    rw [← h1, add_plain, add_plain, Nat.add_assoc, hsplit]
end
end Go.Proofs.YtcpokkkdmenmgaaDoor
/- A row of the call's own stays when a block below it is written; a struct's cells, stored one by one. No condition. -/
namespace Go.Proofs.YtcpokkkdmenmgaaDoor
open Go.RowKit Go.ChangeShapes Go.WideShapes Go.ChangeAt Go.Deep
theorem owns_not {w : World} {base : Nat} {v : Value} {e : TypeId} {size n : Nat} {xs : List Value} (h : w.ownsRow base e size v n xs) {g : Nat} (hg : g < base) : v.ownBlock = none ∨ v.ownBlock ≠ some g := by
  rcases hob : v.ownBlock with _ | k
  · exact .inl rfl
  · right
    intro e
    have h1 := (World.ownsRow.lt h k hob).1
    cases e
    omega
theorem OwnB.away {w w' : World} {base g : Nat} {v : Value} {xs : List UInt8} (h : OwnB w base v xs) (hg : w.grownBy w' (some g)) (hb : g < base) : OwnB w' base v xs := h.kept hg (owns_not h hb)
theorem store_cell {w : World} {g : Nat} {t : TypeId} {cs : Array Value} (h : w.heap[g]? = some (.cells cs t (0, 0))) (i : Nat) (v : Value) :
    ∃ w', w.setCell ⟨g, i, none⟩ v = w' ∧ w'.heap[g]? = some (.cells (cs.setIfInBounds i v) t (0, 0)) ∧ w.grownBy w' (some g) :=
  ⟨_, rfl, blk_set h i v, grown_set (grown_refl _ _) rfl _⟩
theorem rows_apart {w : World} {base base' : Nat} {v u : Value} {e e' : TypeId} {size n size' n' : Nat} {xs xs' : List Value} (h : w.ownsRow base e size v n xs) (h' : w.ownsRow base' e' size' u n' xs') (hne : e ≠ e') : v.ownBlock = none ∨ v.ownBlock ≠ u.ownBlock := by
  rcases h.2 with ⟨rfl, _⟩ | ⟨g, cap, cur, rfl, hg, hh, _⟩
  · exact .inl rfl
  · rcases h'.2 with ⟨rfl, _⟩ | ⟨g', cap', cur', rfl, hg', hh', _⟩
    · exact .inr (by intro e; cases e)
    · right
      intro e
      have : g = g' := by simpa [Value.ownBlock] using e
      subst this
      rw [hh] at hh'
      simp at hh'
      exact hne hh'.2
theorem row_weaken {w : World} {base base' : Nat} {v : Value} {e : TypeId} {size n : Nat} {xs : List Value} (h : w.ownsRow base e size v n xs) (hb : base' ≤ base) : w.ownsRow base' e size v n xs :=
  ⟨h.1, h.2.imp id fun ⟨g, cap, cur, h1, h2, h3⟩ => ⟨g, cap, cur, h1, Nat.le_trans hb h2, h3⟩⟩
theorem row_on {w w' : World} {base : Nat} {v : Value} {e : TypeId} {size n : Nat} {xs : List Value} (h : w.ownsRow base e size v n xs) (hb : Below w.heap.size w w') : w'.ownsRow base e size v n xs :=
  World.ownsRow.kept h ⟨hb.os, hb.tape, hb.output, hb.size, fun k hk _ => hb.block k hk⟩ (row := none) (by cases v.ownBlock <;> simp)
theorem row_away {w w' : World} {base g : Nat} {v : Value} {e : TypeId} {size n : Nat} {xs : List Value} (h : w.ownsRow base e size v n xs) (hg : w.grownBy w' (some g)) (hb : g < base) : w'.ownsRow base e size v n xs := World.ownsRow.kept h hg (owns_not h hb)
theorem grownBy_far {a b c : World} {g s : Nat} (h : a.grownBy b (some g)) (k : b.grownBy c (some s)) (hs : a.heap.size ≤ s) : a.grownBy c (some g) :=
  ⟨k.os.trans h.os, k.tape.trans h.tape, k.output.trans h.output, Nat.le_trans h.size k.size, fun i hi hne => (k.block i (Nat.lt_of_lt_of_le hi h.size) (fun e => by cases e; omega)).trans (h.block i hi hne)⟩
theorem grownBy_of {a b : World} {g : Nat} (h : Below a.heap.size a b) : a.grownBy b (some g) := ⟨h.os, h.tape, h.output, h.size, fun i hi _ => h.block i hi⟩
/-- A block that is not the row's stays, and stays apart from it. -/
theorem Grew.box {w w' : World} {v v' : Value} {g : Nat} {x : Obj} (h : Grew w v w' v') (hx : w.heap[g]? = some x) (hv : v.ownBlock ≠ some g) : w'.heap[g]? = some x ∧ v'.ownBlock ≠ some g := by
  have hlt : g < w.heap.size := by
    rcases Nat.lt_or_ge g w.heap.size with h1 | h1
    · exact h1
    · rw [Array.getElem?_eq_none h1] at hx; cases hx
  refine ⟨(h.grown.block g hlt (fun e => hv (by first | exact e | exact e.symm))).trans hx, ?_⟩
  rcases h.moved with e | ⟨k, e, hk⟩
  · rw [e]; exact hv
  · rw [e]; intro e'; cases e'; omega
theorem OwnB.off {w : World} {base g : Nat} {v : Value} {xs : List UInt8} (h : OwnB w base v xs) (hg : w.heap.size ≤ g) : v.ownBlock ≠ some g := fun e => by
  have := (h.lt g e).2
  omega
section
variable {w : World} {g : Nat} {t : TypeId} {a0 a1 a2 a3 a4 a5 : Value}
theorem set6at0 (h : w.heap[g]? = some (.cells #[a0, a1, a2, a3, a4, a5] t (0, 0))) (v : Value) : ∃ w', w.setCell ⟨g, 0, none⟩ v = w' ∧ w'.heap[g]? = some (.cells #[v, a1, a2, a3, a4, a5] t (0, 0)) ∧ w.grownBy w' (some g) := store_cell h 0 v
theorem set6at1 (h : w.heap[g]? = some (.cells #[a0, a1, a2, a3, a4, a5] t (0, 0))) (v : Value) : ∃ w', w.setCell ⟨g, 1, none⟩ v = w' ∧ w'.heap[g]? = some (.cells #[a0, v, a2, a3, a4, a5] t (0, 0)) ∧ w.grownBy w' (some g) := store_cell h 1 v
theorem set6at2 (h : w.heap[g]? = some (.cells #[a0, a1, a2, a3, a4, a5] t (0, 0))) (v : Value) : ∃ w', w.setCell ⟨g, 2, none⟩ v = w' ∧ w'.heap[g]? = some (.cells #[a0, a1, v, a3, a4, a5] t (0, 0)) ∧ w.grownBy w' (some g) := store_cell h 2 v
theorem set6at3 (h : w.heap[g]? = some (.cells #[a0, a1, a2, a3, a4, a5] t (0, 0))) (v : Value) : ∃ w', w.setCell ⟨g, 3, none⟩ v = w' ∧ w'.heap[g]? = some (.cells #[a0, a1, a2, v, a4, a5] t (0, 0)) ∧ w.grownBy w' (some g) := store_cell h 3 v
theorem set6at4 (h : w.heap[g]? = some (.cells #[a0, a1, a2, a3, a4, a5] t (0, 0))) (v : Value) : ∃ w', w.setCell ⟨g, 4, none⟩ v = w' ∧ w'.heap[g]? = some (.cells #[a0, a1, a2, a3, v, a5] t (0, 0)) ∧ w.grownBy w' (some g) := store_cell h 4 v
theorem set6at5 (h : w.heap[g]? = some (.cells #[a0, a1, a2, a3, a4, a5] t (0, 0))) (v : Value) : ∃ w', w.setCell ⟨g, 5, none⟩ v = w' ∧ w'.heap[g]? = some (.cells #[a0, a1, a2, a3, a4, v] t (0, 0)) ∧ w.grownBy w' (some g) := store_cell h 5 v
theorem set6all (h : w.heap[g]? = some (.cells #[a0, a1, a2, a3, a4, a5] t (0, 0))) (v0 v1 v2 v3 v4 v5 : Value) : ∃ w', ((((((w.setCell ⟨g, 0, none⟩ v0).setCell ⟨g, 1, none⟩ v1).setCell ⟨g, 2, none⟩ v2).setCell ⟨g, 3, none⟩ v3).setCell ⟨g, 4, none⟩ v4).setCell ⟨g, 5, none⟩ v5) = w' ∧ w'.heap[g]? = some (.cells #[v0, v1, v2, v3, v4, v5] t (0, 0)) ∧ w.grownBy w' (some g) := by
  refine ⟨_, rfl, ?_, ?_⟩
  · exact blk_set (blk_set (blk_set (blk_set (blk_set (blk_set h 0 v0) 1 v1) 2 v2) 3 v3) 4 v4) 5 v5
  · iterate 6 refine grown_set ?_ rfl _
    exact grown_refl _ _
end
end Go.Proofs.YtcpokkkdmenmgaaDoor
/- octet.Put: a number's bytes, put behind a row of bytes. Conditions: the row is the call's own, at most 8 bytes, sizes below 2^39. -/
namespace Go.Proofs.YtcpokkkdmenmgaaDoor
open Go.RowKit Go.ChangeShapes Go.WideShapes Go.ChangeAt Go.Deep
/-- A number as so many bytes, the highest first. -/
def beB (N : Nat) : Nat → List UInt8
  | 0 => []
  | k + 1 => UInt8.ofNat (N / 256 ^ k) :: beB N k
theorem beB_length (N : Nat) : ∀ k, (beB N k).length = k
  | 0 => rfl
  | k + 1 => by simp [beB, beB_length N k]
theorem u8v_mod (x : Nat) : Value.int .u8 ((x : Int) % 256) = u8v (UInt8.ofNat x) := by
  unfold u8v
  rw [UInt8.toNat_ofNat']
  congr 1
theorem pow_shift (j : Nat) (hj : j ≤ 7) : (2 : Int) ^ min (8 * (j : Int)).toNat 64 = ((256 ^ j : Nat) : Int) := by
  rw [show (8 * (j : Int)).toNat = 8 * j by omega, show min (8 * j) 64 = 8 * j by omega, Int.pow_mul]
  simp
end Go.Proofs.YtcpokkkdmenmgaaDoor
/- The document's own sum (distributaryref04.Words, Fold, Of, Check), by contract. Conditions: a slice of bytes that reads as a list, at most 2^20 bytes. -/
namespace Go.Proofs.YtcpokkkdmenmgaaDoor
open Go.RowKit Go.ChangeShapes Go.WideShapes Go.ChangeAt Go.Deep
namespace Sum
def wordsI (xs : List UInt8) : List Int := (words xs).map (fun n : Nat => (n : Int))
theorem wordsI_length (xs : List UInt8) : (wordsI xs).length = (xs.length + 1) / 2 := by simp [wordsI, words_length]
theorem wordsI_take (xs : List UInt8) (k : Nat) (h : 2 * k < xs.length) : (wordsI xs).take (k + 1) = (wordsI xs).take k ++ [((256 * (xs.getD (2 * k) 0).toNat + (xs.getD (2 * k + 1) 0).toNat : Nat) : Int)] := by
  have h1 := words_get xs k h
  unfold wordsI
  rw [← List.map_take, ← List.map_take, List.take_add_one, h1]
  simp
theorem sum_take (l : List Nat) (k : Nat) (h : k < l.length) : (l.take (k + 1)).sum = (l.take k).sum + l[k] := by
  rw [List.take_succ_eq_append_getElem h, List.sum_append]; simp
theorem sum_take_le (l : List Nat) : ∀ k, (∀ x ∈ l, x ≤ 65535) → (l.take k).sum ≤ 65535 * k
  | 0, _ => by simp
  | k + 1, h => by
    have h1 := sum_take_le l k h
    rcases Nat.lt_or_ge k l.length with hk | hk
    · rw [sum_take l k hk]
      have := h _ (List.getElem_mem hk)
      omega
    · rw [List.take_of_length_le (by omega)]
      rw [List.take_of_length_le hk] at h1
      omega
end Sum
end Go.Proofs.YtcpokkkdmenmgaaDoor
