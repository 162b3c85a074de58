/- A drawn region whose operations go on by any relation that stands still and goes on (XRegionF); and one of blocks and cells that stay. No condition. -/
import Derived.Test.YtfmmmjaficbchaaQNatFlows3
import Derived.Test.YtfmmmjaficbchaaProg
import Derived.Test.YtfmmmjaficbchaaQNatFlows2
import Derived.Test.YtfmmmjaficbchaaQNatFlows1
import Derived.Test.YtfmmmjaficbchaaQNatFlows4
import Derived.Test.YtfmmmjaficbchaaQNatFlows14
import Derived.ArgAppend
import Derived.Laws.Bits64
import Derived.Lib.Mul64
import Derived.Shelf.Bits.Mul64
namespace Go.Proofs.Ytfmmmjaficbchaa
open Go.RowKit
class IsRel (R : World → World → Prop) : Prop where
  refl : ∀ w, R w w
  trans : ∀ a b c, R a b → R b c → R a c
/-- Such a world. -/
structure RelW (R : World → World → Prop) (w0 : World) where
  w : World
  hk : R w0 w
instance relW_nonempty (R : World → World → Prop) [h : IsRel R] (w0 : World) : Nonempty (RelW R w0) := ⟨⟨w0, h.refl w0⟩⟩
section
variable {P : Program} {Q : Exit → Act → World → Prop} {md : Region.Mode}
theorem wpX_seg (R : World → World → Prop) [hR : IsRel R] (s k : Nat) {w : World} {L : List Oper} (hs : Region.noSelect L.toArray = true) (hQ : ∀ d v c a w, Q (.panic c) (Act.put a d v) w → Q (.panic c) a w) {fuel : Nat} {listed : Array Bool} {a : Act}
    (hl : Nat.ble (s + k) L.length = true) (hB : ordF md L.toArray (List.range' s k) listed = true) (h : wpQF P L.toArray R w (fun a' => wpF P md L.toArray Q R fuel (listAll (List.range' s k) listed) a' w) ((L.drop s).take k) a) :
    wpF P md L.toArray Q R (fuel + k) listed a w := wpF_seg hR.refl hR.trans s k hs hQ hl hB h
theorem wpQX_step {R : World → World → Prop} {ops : Array Oper} {w0 : World} {Q : Act → Prop} {a : Act} {o : Oper} {rest : List Oper}
    (h : ∀ K : Act → Prop, (∀ a, wpQF P ops R w0 Q rest a → K a) → if Region.wanted o (yielded ops a.tmps) then ∃ v, (∀ l : RelW R w0, quietIn P Eq l.w v ((execOp a.eval o).run P l.w)) ∧ K (a.put o.dst v) else K (a.put o.dst undef)) : wpQF P ops R w0 Q (o :: rest) a := by
  have h1 := h _ (fun _ h => h)
  unfold wpQF
  split at h1
  · obtain ⟨v, hv, hK⟩ := h1
    rw [if_pos (by assumption)]
    exact ⟨v, fun w hw => hv ⟨w, hw⟩, hK⟩
  · rw [if_neg (by assumption)]
    exact h1
theorem wp_region_X {id : Nat} {a : Act} {w : World} {l : List Oper} (R : World → World → Prop) (hm : P.follows .mixedOrders = true)
    (h : ∀ wd, Below w.heap.size w wd → wpF P .any l.toArray Q R l.length (Array.replicate l.length false) a wd) : (Code.region id l.toArray true).wp P Q a w := wp_region_F R hm (h _ (Below.refl _ _).drew)
end
/-- What lies below block number S stays, but for some blocks; of these some cells stay. -/
structure KeptC (S : Nat) (P : Nat → Prop) (C : Addr → Prop) (a b : World) : Prop where
  s : KeptS S P a b
  cell : ∀ p, C p → b.cell? p = a.cell? p
instance keptC_rel (S : Nat) (P : Nat → Prop) (C : Addr → Prop) : IsRel (KeptC S P C) :=
  ⟨fun w => ⟨keptS_refl _ _ w, fun _ _ => rfl⟩, fun a b c h k => ⟨keptS_trans S P a b c h.s k.s, fun p hp => (k.cell p hp).trans (h.cell p hp)⟩⟩
instance keptS_rel (S : Nat) (P : Nat → Prop) : IsRel (KeptS S P) := ⟨keptS_refl S P, keptS_trans S P⟩
/-- All cells of a block but one. -/
def butCell (g i : Nat) (p : Addr) : Prop := ∃ j, p = ⟨g, j, none⟩ ∧ j ≠ i
theorem RelW.blkC {S : Nat} {P : Nat → Prop} {C : Addr → Prop} {w0 : World} (l : RelW (KeptC S P C) w0) {k : Nat} {x : Option Obj} (h : w0.heap[k]? = x) (hk : k < S) (hne : ¬ P k) : l.w.heap[k]? = x := (l.hk.s.block k hk hne).trans h
theorem RelW.cellC {S : Nat} {P : Nat → Prop} {C : Addr → Prop} {w0 : World} (l : RelW (KeptC S P C) w0) {p : Addr} {v : Option Value} (h : w0.cell? p = v) (hC : C p) : l.w.cell? p = v := (l.hk.cell p hC).trans h
theorem keptC_cells {S g i : Nat} {w w' : World} {t : TypeId} {cs cs' : Array Value} (hg : w.grownBy w' (some g)) (hS : S ≤ w.heap.size) (h : w.heap[g]? = some (.cells cs t (0, 0))) (h' : w'.heap[g]? = some (.cells cs' t (0, 0))) (he : ∀ j, j ≠ i → cs'[j]? = cs[j]?) : KeptC S (fun k => k = g) (butCell g i) w w' :=
  ⟨⟨hg.os, hg.tape, hg.output, hg.size, fun k hk hne => hg.block k (by omega) (fun e => hne (by cases e; rfl))⟩, fun p ⟨j, e, hj⟩ => by subst e; rw [blk_cell h', blk_cell h]; exact he j hj⟩
theorem keptC_below {S B g i : Nat} {w w' : World} {P : Nat → Prop} {C : Addr → Prop} (hb : Below B w w') (hS : S ≤ B) (hC : ∀ p, C p → p.block < B) : KeptC S P C w w' :=
  ⟨keptS_of_below hb hS, fun p hp => World.cell?_of_block (hb.block _ (hC p hp))⟩
end Go.Proofs.Ytfmmmjaficbchaa
/- A drawn region some of whose operations write (they are named), each waiting for the loads of what it writes: those loads are taken first as if nothing turned. No condition. -/
namespace Go.Proofs.Ytfmmmjaficbchaa
open Go.RowKit
section
variable {P : Program} {ops : Array Oper} {Q : Exit → Act → World → Prop} {md : Region.Mode}
/-- Whatever order is picked from here on; operation i goes on by Rj i. -/
def wpW (P : Program) (md : Region.Mode) (ops : Array Oper) (Q : Exit → Act → World → Prop) (Rj : Nat → World → World → Prop) : Nat → Array Bool → Act → World → Prop
  | 0, listed, a, w => Region.ready md ops listed = [] ∧ Q .normal a w
  | fuel + 1, listed, a, w => (Region.ready md ops listed = [] → Q .normal a w) ∧
      ∀ i ∈ Region.ready md ops listed, wpOp P ops Q i (fun a' w'' => Rj i w w'' ∧ wpW P md ops Q Rj fuel (listed.setIfInBounds i true) a' w'') a w
variable {Rj : Nat → World → World → Prop} {S : World → World → Prop}
theorem wpAny_of_W : ∀ (fuel : Nat) (listed : Array Bool) (a : Act) (w : World), wpW P md ops Q Rj fuel listed a w → wpAny P md ops Q fuel listed a w
  | 0, _, _, _, h => h
  | fuel + 1, _, _, _, h => ⟨h.1, fun i hi => wpOp_mono (fun a' w' h' => wpAny_of_W fuel _ a' w' h'.2) (h.2 i hi)⟩
theorem wpW_first (hr : ∀ w, S w w) (ht : ∀ a b c, S a b → S b c → S a c) (hRr : ∀ i w, Rj i w w) {i : Nat} {oi : Oper} {v : Value} (hi : ops[i]? = some oi) (hsel : ∀ (j : Nat) (o : Oper) cs b, ops[j]? = some o → o.op ≠ .select cs b)
    (hQ : ∀ c a w, Q (.panic c) (a.put oi.dst v) w → Q (.panic c) a w)
    (hcond : ∀ j oj, ops[j]? = some oj → j ≠ i → (∀ e ∈ oj.after, Region.binds md e = true → e.on ≠ i) → ∀ a b, Rj j a b → S a b) :
    ∀ (fuel : Nat) (listed : Array Bool) (a : Act) (w : World),
      (∀ j oj, ops[j]? = some oj → j ≠ i → listed.getD j true = false → (∀ e ∈ oj.after, Region.binds md e = true → e.on ≠ i) → oi.apart ops oj = true) →
      i ∈ Region.ready md ops listed → YieldsF P ops S w oi v a →
      wpW P md ops Q Rj fuel (listed.setIfInBounds i true) (a.put oi.dst v) w → wpW P md ops Q Rj (fuel + 1) listed a w := by
  intro fuel
  induction fuel with
  | zero =>
    intro listed a w _ hrd hy H
    refine ⟨fun h => (by rw [h] at hrd; cases hrd), fun j hj => ?_⟩
    by_cases hji : j = i
    · subst hji; exact hy.wpOp hi (hr _) ⟨hRr _ _, H⟩
    · have := ready_mono hj hji
      rw [H.1] at this
      cases this
  | succ fuel ih =>
    intro listed a w hfree hrd hy H
    refine ⟨fun h => (by rw [h] at hrd; cases hrd), fun j hj => ?_⟩
    by_cases hji : j = i
    · subst hji; exact hy.wpOp hi (hr _) ⟨hRr _ _, H⟩
    · have h1 := H.2 j (ready_mono hj hji)
      obtain ⟨hjun, oj, hoj, hall⟩ := mem_ready.1 hj
      have hnot : ∀ e ∈ oj.after, Region.binds md e = true → e.on ≠ i := fun e he hb heq => by
        have h1 := hall e he hb
        have h0 := (mem_ready.1 hrd).1
        rw [heq] at h1
        rcases Nat.lt_or_ge i listed.size with h' | h'
        · simp [h'] at h0 h1; rw [h0] at h1; cases h1
        · simp [Array.getElem?_eq_none h'] at h1
      have h2 := wpOp_putF hoj (hfree j oj hoj hji hjun hnot) (fun cs b => hsel i oi cs b hi) (fun cs b => hsel j oj cs b hoj) hQ hy h1
      have hfree' : ∀ k ok, ops[k]? = some ok → k ≠ i → (listed.setIfInBounds j true).getD k true = false →
          (∀ e ∈ ok.after, Region.binds md e = true → e.on ≠ i) → oi.apart ops ok = true := fun k ok hk hki hun hno => by
        refine hfree k ok hk hki ?_ hno
        by_cases hjk : j = k
        · subst hjk; exact hjun
        · rw [getD_set_ne true hjk] at hun; exact hun
      refine wpOp_mono (fun a' w' h3 => ⟨h3.2.1, ih (listed.setIfInBounds j true) a' w' hfree' (ready_mono hrd (Ne.symm hji)) (h3.1.later ht (hcond j oj hoj hji hnot _ _ h3.2.1)) ?_⟩) h2
      rw [Array.setIfInBounds_comm _ _ hji]
      exact h3.2.2
/-- Does every writer wait for operation i? -/
def hardB (md : Region.Mode) (ops : Array Oper) (Wr : List Nat) (i : Nat) : Bool :=
  Wr.all fun j => j == i || match ops[j]? with
    | some o => o.after.any fun e => Region.binds md e && e.on == i
    | none => true
/-- A writer goes on by R, the others by R0. -/
def Rel2 (Wr : List Nat) (R0 R : World → World → Prop) (j : Nat) (a b : World) : Prop := if Wr.contains j = true then R a b else R0 a b
theorem wpW_ord {R0 R : World → World → Prop} {Wr : List Nat} (h0 : ∀ a b, R0 a b → S a b) (hr : ∀ w, S w w) (ht : ∀ a b c, S a b → S b c → S a c) (hRr : ∀ i w, Rel2 Wr R0 R i w w)
    {w : World} (hs : Region.noSelect ops = true) (hQ : ∀ d v c a w, Q (.panic c) (Act.put a d v) w → Q (.panic c) a w) {fuel : Nat} {Q' : Act → Prop} : ∀ (ord : List Nat) (l : List Oper) (listed : Array Bool) (a : Act),
    (∀ i ∈ ord, (∀ a b, R a b → S a b) ∨ hardB md ops Wr i = true) →
    ord.map (fun i => ops[i]?) = l.map some → ordF md ops ord listed = true → wpQF P ops S w Q' l a → (∀ a', Q' a' → wpW P md ops Q (Rel2 Wr R0 R) fuel (listAll ord listed) a' w) →
    wpW P md ops Q (Rel2 Wr R0 R) (fuel + ord.length) listed a w
  | [], [], _, a, _, _, _, h, hq => hq a h
  | [], _ :: _, _, _, _, h, _, _, _ => by simp at h
  | _ :: _, [], _, _, _, h, _, _, _ => by simp at h
  | i :: ord, o :: l, listed, a, hh, hl, hB, h, hq => by
    simp only [List.map_cons, List.cons.injEq] at hl
    simp only [ordF, Bool.and_eq_true] at hB
    obtain ⟨⟨hrd, hf⟩, hB'⟩ := hB
    have hcond : ∀ j oj, ops[j]? = some oj → j ≠ i → (∀ e ∈ oj.after, Region.binds md e = true → e.on ≠ i) → ∀ a b, Rel2 Wr R0 R j a b → S a b := by
      intro j oj hoj hji hnot a b hab
      unfold Rel2 at hab
      split at hab
      · rename_i hc
        rcases hh i (by simp) with hR | hhard
        · exact hR a b hab
        · exfalso
          unfold hardB at hhard
          have h1 := List.all_eq_true.1 hhard j (by simpa using hc)
          rw [hoj] at h1
          simp only [Bool.or_eq_true, beq_iff_eq] at h1
          rcases h1 with h1 | h1
          · exact hji h1
          · obtain ⟨m, hm, he⟩ := Array.any_eq_true.1 h1
            simp only [Bool.and_eq_true, beq_iff_eq] at he
            exact hnot _ (Array.getElem_mem hm) he.1 he.2
      · exact h0 a b hab
    have step : ∀ v, YieldsF P ops S w o v a → wpQF P ops S w Q' l (a.put o.dst v) → wpW P md ops Q (Rel2 Wr R0 R) (fuel + (ord.length + 1)) listed a w := fun v hy hK =>
      wpW_first hr ht hRr hl.1 (Region.noSelect_spec hs) (hQ _ _) hcond _ listed a w (Region.free_spec hl.1 hf) (by simpa using hrd) hy (wpW_ord h0 hr ht hRr hs hQ ord l _ _ (fun k hk => hh k (by simp [hk])) hl.2 hB' hK hq)
    unfold wpQF at h
    split at h
    · rename_i hw
      obtain ⟨v, hv, hK⟩ := h
      exact step v (.inl ⟨hw, hv⟩) hK
    · rename_i hw
      exact step undef (.inr ⟨by simpa using hw, rfl⟩) h
theorem wpW_done {listed : Array Bool} {a : Act} {w : World} (hrd : Region.ready md ops listed = []) (h : Q .normal a w) : ∀ fuel, wpW P md ops Q Rj fuel listed a w
  | 0 => ⟨hrd, h⟩
  | _ + 1 => ⟨fun _ => h, fun i hi => by rw [hrd] at hi; cases hi⟩
theorem wpW_step (i : Nat) {L : List Oper} {o : Oper} {rest : List Oper} {fuel : Nat} {listed : Array Bool} {a : Act} {w : World} (hd : L.drop i = o :: rest) (hrd : Region.ready md L.toArray listed = [i])
    (h : ∀ K : Act → World → Prop, (∀ a'' w'', Rj i w w'' → wpW P md L.toArray Q Rj fuel (listed.setIfInBounds i true) a'' w'' → K a'' w'') →
      if Region.wanted o (yielded L.toArray a.tmps) then o.wp P a w K Q else K (a.put o.dst undef) w) : wpW P md L.toArray Q Rj (fuel + 1) listed a w := by
  refine ⟨fun h0 => (by rw [h0] at hrd; cases hrd), fun j hj => ?_⟩
  rw [hrd] at hj
  obtain rfl : j = i := by simpa using hj
  have h1 := h (fun a' w'' => Rj j w w'' ∧ wpW P md L.toArray Q Rj fuel (listed.setIfInBounds j true) a' w'') (fun _ _ h2 h3 => ⟨h2, h3⟩)
  unfold wpOp
  simp only [at_drop hd]
  split
  · rename_i hw; rw [if_pos hw] at h1; exact .inl h1
  · rename_i hw; rw [if_neg hw] at h1; exact h1
end
/-- What lies below block number S stays, but for some blocks: the writers' relation; the others turn nothing below S. -/
def RelS (Wr : List Nat) (S : Nat) (B : Nat → Prop) : Nat → World → World → Prop := Rel2 Wr (KeptS S (fun _ => False)) (KeptS S B)
theorem relS_refl (Wr : List Nat) (S : Nat) (B : Nat → Prop) (i : Nat) (w : World) : RelS Wr S B i w w := by
  unfold RelS Rel2
  split
  · exact keptS_refl _ _ _
  · exact keptS_refl _ _ _
theorem relS_of {Wr : List Nat} {S : Nat} {B : Nat → Prop} {i : Nat} {a b : World} (hw : Wr.contains i = true) (h : KeptS S B a b) : RelS Wr S B i a b := by
  unfold RelS Rel2
  rw [if_pos hw]
  exact h
theorem keptS_more {S : Nat} {B : Nat → Prop} {a b : World} (h : KeptS S (fun _ => False) a b) : KeptS S B a b := ⟨h.os, h.tape, h.output, h.size, fun k hk _ => h.block k hk id⟩
section
variable {P : Program} {Q : Exit → Act → World → Prop} {md : Region.Mode}
/-- The operations s .. s + k - 1 are taken first; what they read stays whatever is written. -/
theorem wpWS_seg (Wr : List Nat) (S : Nat) (B : Nat → Prop) (s k : Nat) {w : World} {L : List Oper} (hs : Region.noSelect L.toArray = true) (hQ : ∀ d v c a w, Q (.panic c) (Act.put a d v) w → Q (.panic c) a w) {fuel : Nat} {listed : Array Bool} {a : Act}
    (hl : Nat.ble (s + k) L.length = true) (hB : ordF md L.toArray (List.range' s k) listed = true) (h : wpQF P L.toArray (KeptS S B) w (fun a' => wpW P md L.toArray Q (RelS Wr S B) fuel (listAll (List.range' s k) listed) a' w) ((L.drop s).take k) a) :
    wpW P md L.toArray Q (RelS Wr S B) (fuel + k) listed a w := by
  have h1 := wpW_ord (S := KeptS S B) (R0 := KeptS S (fun _ => False)) (R := KeptS S B) (Wr := Wr) (fun _ _ => keptS_more) (keptS_refl S B) (keptS_trans S B) (relS_refl Wr S B) hs hQ (fuel := fuel) (List.range' s k) ((L.drop s).take k) listed a (fun _ _ => .inl fun _ _ h => h) (seg_map L k s (Nat.le_of_ble_eq_true hl)) hB h (fun _ h => h)
  rwa [List.length_range'] at h1
/-- .. and every writer waits for them: they read as if nothing were written. -/
theorem wpWH_seg (Wr : List Nat) (S : Nat) (B : Nat → Prop) (s k : Nat) {w : World} {L : List Oper} (hs : Region.noSelect L.toArray = true) (hQ : ∀ d v c a w, Q (.panic c) (Act.put a d v) w → Q (.panic c) a w) {fuel : Nat} {listed : Array Bool} {a : Act}
    (hl : Nat.ble (s + k) L.length = true) (hB : ordF md L.toArray (List.range' s k) listed = true) (hH : (List.range' s k).all (hardB md L.toArray Wr) = true) (h : wpQF P L.toArray (KeptS S (fun _ => False)) w (fun a' => wpW P md L.toArray Q (RelS Wr S B) fuel (listAll (List.range' s k) listed) a' w) ((L.drop s).take k) a) :
    wpW P md L.toArray Q (RelS Wr S B) (fuel + k) listed a w := by
  have hh : ∀ i ∈ List.range' s k, (∀ a b, KeptS S B a b → KeptS S (fun _ => False) a b) ∨ hardB md L.toArray Wr i = true := fun i hi => .inr (List.all_eq_true.1 hH i hi)
  have h1 := wpW_ord (md := md) (S := KeptS S (fun _ => False)) (R0 := KeptS S (fun _ => False)) (R := KeptS S B) (Wr := Wr) (fun _ _ h => h) (keptS_refl S _) (keptS_trans S _) (relS_refl Wr S B) hs hQ (fuel := fuel) (List.range' s k) ((L.drop s).take k) listed a hh (seg_map L k s (Nat.le_of_ble_eq_true hl)) hB h (fun _ h => h)
  rwa [List.length_range'] at h1
theorem wp_region_W {id : Nat} {a : Act} {w : World} {l : List Oper} (Wr : List Nat) (S : Nat) (B : Nat → Prop) (hm : P.follows .mixedOrders = true)
    (h : ∀ wd, Below w.heap.size w wd → wpW P .any l.toArray Q (RelS Wr S B) l.length (Array.replicate l.length false) a wd) : (Code.region id l.toArray true).wp P Q a w := by
  refine wp_region_any hm ?_
  have := wpAny_of_W l.length (Array.replicate l.length false) a w.drew (h _ (Below.refl _ _).drew)
  simpa using this
end
end Go.Proofs.Ytfmmmjaficbchaa
/- A drawn region some of whose operations may turn anything, each waiting for what is read (they are named); the others go on by a relation. No condition. -/
namespace Go.Proofs.Ytfmmmjaficbchaa
open Go.RowKit
def RelY (Wr : List Nat) (R : World → World → Prop) : Nat → World → World → Prop := Rel2 Wr R (fun _ _ => True)
theorem relY_of {Wr : List Nat} {R : World → World → Prop} {i : Nat} {a b : World} (h : R a b) : RelY Wr R i a b := by
  unfold RelY Rel2
  split
  · trivial
  · exact h
theorem relY_wr {Wr : List Nat} {R : World → World → Prop} {i : Nat} {a b : World} (h : Wr.contains i = true) : RelY Wr R i a b := by
  unfold RelY Rel2
  rw [if_pos h]
  trivial
section
variable {P : Program} {Q : Exit → Act → World → Prop} {md : Region.Mode}
theorem wpY_seg (Wr : List Nat) (R : World → World → Prop) [hR : IsRel R] (s k : Nat) {w : World} {L : List Oper} (hs : Region.noSelect L.toArray = true) (hQ : ∀ d v c a w, Q (.panic c) (Act.put a d v) w → Q (.panic c) a w) {fuel : Nat} {listed : Array Bool} {a : Act}
    (hl : Nat.ble (s + k) L.length = true) (hB : ordF md L.toArray (List.range' s k) listed = true) (hH : (List.range' s k).all (hardB md L.toArray Wr) = true) (h : wpQF P L.toArray R w (fun a' => wpW P md L.toArray Q (RelY Wr R) fuel (listAll (List.range' s k) listed) a' w) ((L.drop s).take k) a) :
    wpW P md L.toArray Q (RelY Wr R) (fuel + k) listed a w := by
  have hh : ∀ i ∈ List.range' s k, (∀ a b, (fun _ _ => True : World → World → Prop) a b → R a b) ∨ hardB md L.toArray Wr i = true := fun i hi => .inr (List.all_eq_true.1 hH i hi)
  have h1 := wpW_ord (md := md) (S := R) (R0 := R) (R := fun _ _ => True) (Wr := Wr) (fun _ _ h => h) hR.refl hR.trans (fun i w => relY_of (hR.refl w)) hs hQ (fuel := fuel) (List.range' s k) ((L.drop s).take k) listed a hh (seg_map L k s (Nat.le_of_ble_eq_true hl)) hB h (fun _ h => h)
  rwa [List.length_range'] at h1
theorem wp_region_Y {id : Nat} {a : Act} {w : World} {l : List Oper} (Wr : List Nat) (R : World → World → Prop) (hm : P.follows .mixedOrders = true)
    (h : ∀ wd, Below w.heap.size w wd → wpW P .any l.toArray Q (RelY Wr R) l.length (Array.replicate l.length false) a wd) : (Code.region id l.toArray true).wp P Q a w := by
  refine wp_region_any hm ?_
  have := wpAny_of_W l.length (Array.replicate l.length false) a w.drew (h _ (Below.refl _ _).drew)
  simpa using this
end
end Go.Proofs.Ytfmmmjaficbchaa
/- mix: numbers that are mixed, and a number below another one: the code's and the document's. Conditions: numbers of 64 bits. -/
namespace Go.Proofs.Ytfmmmjaficbchaa
open Go.RowKit Go.ChangeShapes Go.WideShapes Go.ChangeAt Go.Deep
namespace Mix
/-- A number that is mixed. -/
def shN (x : Nat) : Nat := x ^^^ x / 8589934592
def mixN (x : Nat) : Nat := shN (shN (shN x * 18397679294719823053 % 18446744073709551616) * 14181476777654086739 % 18446744073709551616)
theorem shN_lt (x : Nat) (hx : x < 18446744073709551616) : shN x < 18446744073709551616 := by
  have h := Nat.div_le_self x 8589934592
  have := Nat.xor_lt_two_pow (n := 64) (show x < 2 ^ 64 by omega) (show x / 8589934592 < 2 ^ 64 by omega)
  unfold shN
  omega
theorem mixN_lt (x : Nat) : mixN x < 18446744073709551616 := shN_lt _ (Nat.mod_lt _ (by omega))
theorem one_shape (x : Nat) (hx : x < 18446744073709551616) : bits .xor .u64 (x : Int) ((x : Int) / 8589934592) = ((shN x : Nat) : Int) := xorShift_u64 x 8589934592 hx
theorem wrapMul (x c : Nat) : IntKind.u64.wrap ((x : Int) * (c : Int)) = ((x * c % 18446744073709551616 : Nat) : Int) := by
  rw [IntKind.wrap_u64]; omega
theorem one_any (x : Nat) (hx : x < 18446744073709551616) (w : World) : Calls Try.prog 54 #[.int .u64 (x : Int)] w fun e w' => e = .returned (.int .u64 ((mixN x : Nat) : Int)) ∧ w = w' := by
  obtain ⟨a, ha⟩ : ∃ a, shN x = a := ⟨_, rfl⟩
  obtain ⟨b, hb⟩ : ∃ b, a * 18397679294719823053 % 18446744073709551616 = b := ⟨_, rfl⟩
  obtain ⟨c, hc⟩ : ∃ c, shN b = c := ⟨_, rfl⟩
  obtain ⟨d, hd⟩ : ∃ d, c * 14181476777654086739 % 18446744073709551616 = d := ⟨_, rfl⟩
  have q1 := one_shape x hx
  have q2 : IntKind.u64.wrap ((a : Int) * 18397679294719823053) = (b : Int) := by rw [IntKind.wrap_u64]; omega
  have q3 := one_shape b (by omega)
  have q4 : IntKind.u64.wrap ((c : Int) * 14181476777654086739) = (d : Int) := by rw [IntKind.wrap_u64]; omega
  have q5 := one_shape d (by omega)
  have hm : mixN x = shN d := by unfold mixN; rw [ha, hb, hc, hd]
  rw [ha] at q1
  rw [hc] at q3
  rw [hm]
  replace ha := hide ha
  replace hb := hide hb
  replace hc := hide hc
  replace hd := hide hd
  go_enter Try.func54, Try.ntmps54
  go_wp2_with fail
  go_ret
  exact ⟨rfl, rfl⟩
theorem refOne_any (x : Nat) (hx : x < 18446744073709551616) (w : World) : Calls Try.prog 77 #[.int .u64 (x : Int)] w fun e w' => e = .returned (.int .u64 ((mixN x : Nat) : Int)) ∧ w = w' := by
  obtain ⟨a, ha⟩ : ∃ a, shN x = a := ⟨_, rfl⟩
  obtain ⟨b, hb⟩ : ∃ b, a * 18397679294719823053 % 18446744073709551616 = b := ⟨_, rfl⟩
  obtain ⟨c, hc⟩ : ∃ c, shN b = c := ⟨_, rfl⟩
  obtain ⟨d, hd⟩ : ∃ d, c * 14181476777654086739 % 18446744073709551616 = d := ⟨_, rfl⟩
  have q1 := one_shape x hx
  have q2 : IntKind.u64.wrap ((a : Int) * 18397679294719823053) = (b : Int) := by rw [IntKind.wrap_u64]; omega
  have q3 := one_shape b (by omega)
  have q4 : IntKind.u64.wrap ((c : Int) * 14181476777654086739) = (d : Int) := by rw [IntKind.wrap_u64]; omega
  have q5 := one_shape d (by omega)
  have hm : mixN x = shN d := by unfold mixN; rw [ha, hb, hc, hd]
  rw [ha] at q1
  rw [hc] at q3
  rw [hm]
  replace ha := hide ha
  replace hb := hide hb
  replace hc := hide hc
  replace hd := hide hd
  go_enter Try.func77, Try.ntmps77
  go_wp2_with fail
  go_ret
  exact ⟨rfl, rfl⟩
set_option maxHeartbeats 1000000 in
theorem mul64_any (x y : Nat) (hx : x < 18446744073709551616) (hy : y < 18446744073709551616) (w : World) :
    Calls Try.prog 76 #[.int .u64 (x : Int), .int .u64 (y : Int)] w fun e w' => e = .returned (.tuple #[.int .u64 ((x * y / 18446744073709551616 : Nat) : Int), .int .u64 ((x * y % 18446744073709551616 : Nat) : Int)]) ∧ w = w' := by
  obtain ⟨bd, bt, bw, hhi⟩ := Lib.mul64_hi x y hx hy
  have ba := Lib.half_mul_le (a := x / 4294967296) (b := y / 4294967296) (by omega) (by omega)
  have bb := Lib.half_mul_le (a := x / 4294967296) (b := y % 4294967296) (by omega) (by omega)
  have bc := Lib.half_mul_le (a := x % 4294967296) (b := y / 4294967296) (by omega) (by omega)
  have ba' : x / 4294967296 * (y / 4294967296) < 18446744073709551616 := by omega
  have bb' : x / 4294967296 * (y % 4294967296) < 18446744073709551616 := by omega
  have bc' : x % 4294967296 * (y / 4294967296) < 18446744073709551616 := by omega
  have bh1 : x / 4294967296 * (y / 4294967296) + (x / 4294967296 * (y % 4294967296) + x % 4294967296 * (y % 4294967296) / 4294967296) / 4294967296 < 18446744073709551616 := by omega
  have bh : x / 4294967296 * (y / 4294967296) + (x / 4294967296 * (y % 4294967296) + x % 4294967296 * (y % 4294967296) / 4294967296) / 4294967296 + ((x / 4294967296 * (y % 4294967296) + x % 4294967296 * (y % 4294967296) / 4294967296) % 4294967296 + x % 4294967296 * (y / 4294967296)) / 4294967296 < 18446744073709551616 := by omega
  go_enter Try.func76, Try.ntmps76
  go_wp2
  simp only [Mul64.maskN x hx, Mul64.maskN y hy, Mul64.divN, Mul64.mulN, Mul64.addN, Mul64.wrapN _ bd, Mul64.wrapN _ bb', Mul64.wrapN _ bt, Mul64.maskN _ bt, Mul64.wrapN _ bc', Mul64.wrapN _ bw, Mul64.wrapN _ ba', Mul64.wrapN _ bh1, Mul64.wrapN _ bh, Mul64.wrapM (x * y)]
  rw [hhi]
  go_ret2
  exact ⟨rfl, rfl⟩
/-- A number below another one. -/
def belN (x n : Nat) : Nat := x * n / 18446744073709551616
theorem belN_lt (x n : Nat) (hx : x < 18446744073709551616) (hn : 1 ≤ n) : belN x n < n := by
  unfold belN
  rw [Nat.div_lt_iff_lt_mul (by omega), Nat.mul_comm]
  exact Nat.mul_lt_mul_of_pos_left hx hn
theorem belN_le (x n : Nat) (hx : x < 18446744073709551616) : belN x n ≤ n := by
  rcases Nat.eq_zero_or_pos n with rfl | h
  · simp [belN]
  · have := belN_lt x n hx h
    omega
theorem below_any (x : Nat) (n : Int) (hx : x < 18446744073709551616) (hn : n < 9223372036854775808) (w : World) :
    Calls Try.prog 49 #[.int .u64 (x : Int), .int .i64 n] w fun e w' => e = .returned (.int .i64 ((belN x n.toNat : Nat) : Int)) ∧ w = w' := by
  by_cases h : n < 1
  · have e0 : belN x n.toNat = 0 := by rw [show n.toNat = 0 by omega]; simp [belN]
    rw [e0]
    go_enter Try.func49, Try.ntmps49
    go_wp2_with fail
    go_ret
    exact ⟨rfl, rfl⟩
  · obtain ⟨m, rfl⟩ : ∃ m : Nat, n = (m : Int) := ⟨n.toNat, by omega⟩
    rw [Int.toNat_natCast]
    have hm := mul64_any x m hx (by omega)
    have hb := belN_le x m hx
    have q1 : IntKind.u64.wrap (m : Int) = (m : Int) := by rw [IntKind.wrap_u64]; omega
    obtain ⟨b, hbe⟩ : ∃ b, belN x m = b := ⟨_, rfl⟩
    have q2 : IntKind.i64.wrap (b : Int) = (b : Int) := by rw [IntKind.wrap_i64]; omega
    unfold belN at hbe
    rw [hbe] at hm
    rw [show belN x m = b from hbe]
    replace hm := hide hm
    replace hb := hide hb
    replace hbe := hide hbe
    go_enter Try.func49, Try.ntmps49
    go_wp2_with fail
    refine (hm.out _).mono ?_
    rintro e w' ⟨rfl, rfl⟩
    go_wp2_with fail
    go_ret
    exact ⟨rfl, rfl⟩
set_option maxHeartbeats 1000000 in
theorem refBelow_any (x : Nat) (n : Int) (hx : x < 18446744073709551616) (hn : n < 9223372036854775808) (w : World) :
    Calls Try.prog 51 #[.int .u64 (x : Int), .int .i64 n] w fun e w' => e = .returned (.int .i64 ((belN x n.toNat : Nat) : Int)) ∧ w = w' := by
  by_cases h : n < 1
  · have e0 : belN x n.toNat = 0 := by rw [show n.toNat = 0 by omega]; simp [belN]
    rw [e0]
    go_enter Try.func51, Try.ntmps51
    go_wp2_with fail
    go_ret
    exact ⟨rfl, rfl⟩
  · obtain ⟨y, rfl⟩ : ∃ m : Nat, n = (m : Int) := ⟨n.toNat, by omega⟩
    rw [Int.toNat_natCast]
    have hy : y < 18446744073709551616 := by omega
    have hle := belN_le x y hx
    have q1 : IntKind.u64.wrap (y : Int) = (y : Int) := by rw [IntKind.wrap_u64]; omega
    obtain ⟨bd, bt, bw, hhi⟩ := Lib.mul64_hi x y hx hy
    have ba := Lib.half_mul_le (a := x / 4294967296) (b := y / 4294967296) (by omega) (by omega)
    have bb := Lib.half_mul_le (a := x / 4294967296) (b := y % 4294967296) (by omega) (by omega)
    have bc := Lib.half_mul_le (a := x % 4294967296) (b := y / 4294967296) (by omega) (by omega)
    have ba' : x / 4294967296 * (y / 4294967296) < 18446744073709551616 := by omega
    have bb' : x / 4294967296 * (y % 4294967296) < 18446744073709551616 := by omega
    have bc' : x % 4294967296 * (y / 4294967296) < 18446744073709551616 := by omega
    have bw2 : x % 4294967296 * (y / 4294967296) + (x / 4294967296 * (y % 4294967296) + x % 4294967296 * (y % 4294967296) / 4294967296) % 4294967296 < 18446744073709551616 := by omega
    have bh1 : x / 4294967296 * (y / 4294967296) + (x / 4294967296 * (y % 4294967296) + x % 4294967296 * (y % 4294967296) / 4294967296) / 4294967296 < 18446744073709551616 := by omega
    have bh2 : x / 4294967296 * (y / 4294967296) + (x / 4294967296 * (y % 4294967296) + x % 4294967296 * (y % 4294967296) / 4294967296) / 4294967296 + (x % 4294967296 * (y / 4294967296) + (x / 4294967296 * (y % 4294967296) + x % 4294967296 * (y % 4294967296) / 4294967296) % 4294967296) / 4294967296 = belN x y := by
      unfold belN
      rw [← hhi, Nat.add_comm (x % 4294967296 * (y / 4294967296))]
    have bh : x / 4294967296 * (y / 4294967296) + (x / 4294967296 * (y % 4294967296) + x % 4294967296 * (y % 4294967296) / 4294967296) / 4294967296 + (x % 4294967296 * (y / 4294967296) + (x / 4294967296 * (y % 4294967296) + x % 4294967296 * (y % 4294967296) / 4294967296) % 4294967296) / 4294967296 < 18446744073709551616 := by rw [bh2]; omega
    clear hhi
    replace bh2 := hide bh2
    go_enter Try.func51, Try.ntmps51
    go_wp2_with fail
    simp only [Mul64.maskN x hx, Mul64.maskN y hy, Mul64.divN, Mul64.mulN, Mul64.addN, Mul64.wrapN _ bd, Mul64.wrapN _ bb', Mul64.wrapN _ bt, Mul64.maskN _ bt, Mul64.wrapN _ bc', Mul64.wrapN _ bw2, Mul64.wrapN _ ba', Mul64.wrapN _ bh1, Mul64.wrapN _ bh]
    rw [bh2.out]
    have q9 : wrap64 ((belN x y : Nat) : Int) = ((belN x y : Nat) : Int) := by
      unfold wrap64
      omega
    rw [q9]
    go_ret
    exact ⟨rfl, rfl⟩
end Mix
end Go.Proofs.Ytfmmmjaficbchaa
/- A row of the call's own that may be cut short: its block holds at least as many cells as its capacity says; appended to, cut, read. Conditions: sizes below 2^40. -/
namespace Go.Proofs.Ytfmmmjaficbchaa
open Go.RowKit
/-- A row of the call's own, of whatever elements; the block may be longer than the capacity. -/
def rowsP (w : World) (base : Nat) (e : TypeId) (size : Nat) (v : Value) (n : Nat) (xs : List Value) : Prop :=
  xs.length = n * size ∧
  ((v = .slice none 0 0 ∧ n = 0) ∨
   ∃ g cap cur, v = .slice (some ⟨g, 0, none⟩) n cap ∧ base ≤ g ∧ w.heap[g]? = some (.cells cur e (0, 0)) ∧ n ≤ cap ∧ cap ≤ maxLen ∧ cap * size ≤ cur.size ∧ cur.toList.take (n * size) = xs)
section
variable {w w' : World} {base : Nat} {e : TypeId} {size : Nat} {v : Value} {n : Nat} {xs : List Value}
theorem rowsP_nil (w : World) (base : Nat) (e : TypeId) (size : Nat) : rowsP w base e size (.slice none 0 0) 0 [] := ⟨by simp, .inl ⟨rfl, rfl⟩⟩
theorem rowsP.lt (h : rowsP w base e size v n xs) : ∀ k, v.ownBlock = some k → base ≤ k ∧ k < w.heap.size := by
  intro k hk
  rcases h.2 with ⟨rfl, _⟩ | ⟨g, cap, cur, rfl, hb, hg, _⟩
  · simp [Value.ownBlock] at hk
  · simp [Value.ownBlock] at hk
    subst hk
    exact ⟨hb, blk_lt hg⟩
theorem rowsP.kept {row : Option Nat} (h : rowsP w base e size v n xs) (hg : w.grownBy w' row) (hne : v.ownBlock = none ∨ v.ownBlock ≠ row) : rowsP w' base e size v n xs := by
  refine ⟨h.1, ?_⟩
  rcases h.2 with hn | ⟨g, cap, cur, rfl, hb, hgg, rest⟩
  · exact .inl hn
  · refine .inr ⟨g, cap, cur, rfl, hb, ?_, rest⟩
    rw [hg.block g (blk_lt hgg) (by simpa [Value.ownBlock] using hne)]
    exact hgg
theorem rowsP.below (h : rowsP w base e size v n xs) (hb : Below w.heap.size w w') : rowsP w' base e size v n xs := by
  refine ⟨h.1, h.2.imp id ?_⟩
  rintro ⟨g, cap, cur, h1, h2, h3, h4⟩
  exact ⟨g, cap, cur, h1, h2, blk_on hb h3, h4⟩
theorem rowsP.other {g : Nat} (h : rowsP w base e size v n xs) (hg : w.grownBy w' (some g)) (hv : v.ownBlock ≠ some g) : rowsP w' base e size v n xs := h.kept hg (.inr hv)
theorem rowsP.len_le (h : rowsP w base e size v n xs) : n ≤ maxLen := by
  rcases h.2 with ⟨_, rfl⟩ | ⟨g, cap, cur, _, _, _, h1, h2, _⟩
  · exact Nat.zero_le _
  · omega
/-- Its cells. -/
theorem rowsP.form (h : rowsP w base e size v n xs) (hn : 0 < n) : ∃ g cap, v = .slice (some ⟨g, 0, none⟩) n cap ∧ base ≤ g ∧ g < w.heap.size ∧ n ≤ cap ∧ cap ≤ maxLen ∧ ∀ j u, xs[j]? = some u → w.cell? ⟨g, j, none⟩ = some u := by
  rcases h.2 with ⟨_, rfl⟩ | ⟨g, cap, cur, rfl, hb, hg, h1, h2, h3, h4⟩
  · omega
  · refine ⟨g, cap, rfl, hb, blk_lt hg, h1, h2, fun j u hu => ?_⟩
    rw [blk_cell hg j]
    rw [← h4, List.getElem?_take] at hu
    split at hu
    · simpa using hu
    · cases hu
/-- It is cut short. -/
theorem rowsP.cut {g cap k : Nat} (h : rowsP w base e size (.slice (some ⟨g, 0, none⟩) n cap) n xs) (hk : k ≤ n) : rowsP w base e size (.slice (some ⟨g, 0, none⟩) k k) k (xs.take (k * size)) := by
  rcases h.2 with ⟨h0, _⟩ | ⟨g', cap', cur, h0, hb, hg, h1, h2, h3, h4⟩
  · cases h0
  · cases h0
    have hm : k * size ≤ n * size := Nat.mul_le_mul_right _ hk
    have hl := h.1
    refine ⟨by rw [List.length_take]; omega, .inr ⟨g, k, cur, rfl, hb, hg, Nat.le_refl _, by omega, ?_, ?_⟩⟩
    · have := Nat.mul_le_mul_right size h1
      omega
    · rw [← h4, List.take_take, Nat.min_eq_left hm]
end
theorem run_append_p {P : Program} (w : World) (base : Nat) (t ty e : TypeId) (i : TypeInfo) (z : Value) (size bytes : Nat) (ht : P.underlying t = some (.slice e)) (hi : P.info? e = some i) (hz : i.zero = some z)
    (hsize : i.size = size) (hby : i.bytes = bytes) (hzs : z.cells.size = size)
    (v : Value) (n : Nat) (xs : List Value) (hown : rowsP w base e size v n xs)
    (a : Addr) (m c : Nat) (news : List Value) (hl : news.length = m * size) (hnews : ∀ j u, news[j]? = some u → w.cell? (a.add j) = some u) (h1 : ∀ u ∈ news, u.oneCell' = true)
    (h63 : n + m ≤ maxLen) (hbytes : (n + m) * bytes ≤ 140737488355328) (hbase : base ≤ w.heap.size) :
    ∃ v' w', (Builtin.append_ #[t, t] ty #[v, .slice (some a) m c]).run P w = .ok v' w' ∧ rowsP w' base e size v' (n + m) (xs ++ news) ∧ w.grownBy w' v.ownBlock ∧ (v'.ownBlock = v.ownBlock ∨ ∃ k, v'.ownBlock = some k ∧ w.heap.size ≤ k) := by
  subst hsize
  subst hby
  have hsmall : n + m ≤ 9223372036854775807 := by simp only [maxLen] at h63; omega
  have hlen : (xs ++ news).length = (n + m) * i.size := by rw [List.length_append, hown.1, hl, Nat.add_mul]
  have grown : ∀ (old : Nat), old < n + m → ∀ (row : Option Nat),
      rowsP (w.drew.alloc (.cells (xs.toArray ++ news.toArray ++ Builtin.zeroCells z.cells (grownCap w (n + m) old e - (n + m))) e)) base e i.size
        (.slice (some ⟨w.heap.size, 0, none⟩) (n + m) (grownCap w (n + m) old e)) (n + m) (xs ++ news) ∧
      w.grownBy (w.drew.alloc (.cells (xs.toArray ++ news.toArray ++ Builtin.zeroCells z.cells (grownCap w (n + m) old e - (n + m))) e)) row := by
    intro old ho row
    have hge := grownCap_ge w (n + m) old e
    have hcm : grownCap w (n + m) old e ≤ maxLen := grownCap_le_maxLen w (n + m) old e h63
    refine ⟨⟨hlen, .inr ⟨w.heap.size, _, _, rfl, hbase, heap_alloc_new w.drew _, hge, hcm, ?_, ?_⟩⟩, ⟨rfl, rfl, rfl, by simp, fun k hk _ => Below.heap_alloc w.drew _ k hk⟩⟩
    · refine Nat.le_of_eq ?_
      simp only [Array.size_append, List.size_toArray, size_zeroCells, hzs, hown.1, hl, ← Nat.add_mul]
      congr 1
      omega
    · simp only [Array.toList_append, List.append_assoc]
      rw [← List.append_assoc, ← hlen]
      exact List.take_left
  rcases hown.2 with ⟨rfl, rfl⟩ | ⟨g, cap, cur, rfl, hbg, hg, hnc, hcm, hcs, htake⟩
  · have hx : xs = [] := List.eq_nil_of_length_eq_zero (by simpa using hown.1)
    subst hx
    by_cases hm : m = 0
    · subst hm
      have hn : news = [] := List.eq_nil_of_length_eq_zero (by simpa using hl)
      subst hn
      refine ⟨.slice none 0 0, w, ?_, rowsP_nil w base e i.size, ⟨rfl, rfl, rfl, Nat.le_refl _, fun _ _ _ => rfl⟩, .inl rfl⟩
      simp [Builtin.append_, run_underlying ht, sizeOf, typeInfo, hi, Builtin.lenOf, Builtin.firstCells, loadCells, loadCellsFrom]
    · have hr := run_append_nil (P := P) w t ty e i z ht hi hz a m c news hl hnews (by omega) (by omega) (by have hb := hbytes; simp only [Nat.zero_add] at hb; omega)
      have hgr := grown 0 (by omega) (Value.ownBlock (.slice none 0 0))
      simp only [Nat.zero_add, List.nil_append, Array.empty_append] at hgr ⊢
      exact ⟨_, _, hr, hgr.1, hgr.2, .inr ⟨_, rfl, Nat.le_refl _⟩⟩
  · by_cases hroom : n + m ≤ cap
    · have hfit : n * i.size + news.length ≤ cur.size := by
        rw [hl, ← Nat.add_mul]
        exact Nat.le_trans (Nat.mul_le_mul_right _ hroom) hcs
      have hr := run_append_room (P := P) w t ty e i ht hi g n cap cur hg a m c news hl hnews h1 hroom hfit
      refine ⟨_, _, hr, ⟨hlen, .inr ⟨g, cap, _, rfl, hbg, setRow_heap w g cur _ e _ hg, hroom, hcm, ?_, ?_⟩⟩, ⟨rfl, rfl, rfl, by simp, fun k _ hk => setRow_other w g k _ (fun e => hk (by simp [Value.ownBlock, e]))⟩, .inl rfl⟩
      · simp only [List.size_toArray, List.length_append, List.length_take, List.length_drop, Array.length_toList]
        omega
      · rw [htake, ← hlen]
        exact List.take_left
    · have holds : ∀ j u, xs[j]? = some u → w.cell? ((⟨g, 0, none⟩ : Addr).add j) = some u := fun j u hu => by
        rw [Addr.add_lit, Nat.zero_add, blk_cell hg j]
        rw [← htake, List.getElem?_take] at hu
        split at hu
        · simpa using hu
        · cases hu
      have hr := run_append_grow (P := P) w t ty e i z ht hi hz ⟨g, 0, none⟩ n cap xs hown.1 holds a m c news hl hnews (by omega) (by omega) (growslice_fits (by omega) hbytes)
      have hgr := grown cap (by omega) (Value.ownBlock (.slice (some ⟨g, 0, none⟩) n cap))
      exact ⟨_, _, hr, hgr.1, hgr.2, .inr ⟨_, rfl, Nat.le_refl _⟩⟩
theorem wp_app_p {P : Program} {w : World} {o : Oper} {a : Act} {K : Act → World → Prop} {Q : Exit → Act → World → Prop} (s x : Operand) (t : TypeId)
    (ho : o.op = .call { callee := .builtin .append, args := #[s, x], argTypes := #[t, t] })
    (base : Nat) (e : TypeId) (i : TypeInfo) (z : Value) (size bytes : Nat) (ht : P.underlying t = some (.slice e)) (hi : P.info? e = some i) (hz : i.zero = some z)
    (hsize : i.size = size) (hby : i.bytes = bytes) (hzs : z.cells.size = size)
    (v : Value) (n : Nat) (xs : List Value) (hs : a.eval s = v) (hown : rowsP w base e size v n xs)
    (ad : Addr) (m c : Nat) (news : List Value) (hx : a.eval x = .slice (some ad) m c) (hl : news.length = m * size) (hnews : ∀ j u, news[j]? = some u → w.cell? (ad.add j) = some u) (h1 : ∀ u ∈ news, u.oneCell' = true)
    (h63 : n + m ≤ maxLen) (hbytes : (n + m) * bytes ≤ 140737488355328) (hbase : base ≤ w.heap.size)
    (h : ∀ v' w', rowsP w' base e size v' (n + m) (xs ++ news) → w.grownBy w' v.ownBlock → (v'.ownBlock = v.ownBlock ∨ ∃ k, v'.ownBlock = some k ∧ w.heap.size ≤ k) → K (a.put o.dst v') w') : o.wp P a w K Q := by
  obtain ⟨v', w', hr, h2, h3, h4⟩ := run_append_p (P := P) w base t o.type e i z size bytes ht hi hz hsize hby hzs v n xs hown ad m c news hl hnews h1 h63 hbytes hbase
  unfold Oper.wp execOp
  simp only [ho, resolve, invoke, builtin, Sem.run_bind, Sem.run_pure, Result.andThen_ok, List.map_toArray, List.map_cons, List.map_nil, hs, hx, hr]
  exact h v' w' h2 h3 h4
end Go.Proofs.Ytfmmmjaficbchaa
/- gen: a plan, and whether it may be: the code's and the document's. Conditions: numbers of 64 bits. -/
namespace Go.Proofs.Ytfmmmjaficbchaa
open Go.RowKit Go.ChangeShapes Go.WideShapes Go.ChangeAt Go.Deep
namespace Gen35
/-- A plan. -/
structure PlanL where
  key : Nat
  cl : Int
  po : Int
  v6 : Bool
  hi : Nat
  lo : Nat
  pr : Int
  vp : Int
  co : Int
  na : Bool
  mo : Int
def plA (p : PlanL) : Array Value := #[.int .u64 (p.key : Int), .int .i64 p.cl, .int .i64 p.po, .bool p.v6, .int .u64 (p.hi : Int), .int .u64 (p.lo : Int), .int .i64 p.pr, .int .i64 p.vp, .int .i64 p.co, .bool p.na, .int .i64 p.mo]
def rightQ (p : PlanL) : Prop := 1 ≤ p.cl ∧ p.cl ≤ 65536 ∧ 1 ≤ p.po ∧ p.po ≤ 32768 ∧ 0 ≤ p.mo ∧ p.mo ≤ 1400 ∧ Four.okA p.v6 (p.hi : Int) (p.lo : Int) = true ∧ (p.pr = 6 ∨ p.pr = 17) ∧ 0 ≤ p.vp ∧ p.vp ≤ 65535
instance (p : PlanL) : Decidable (rightQ p) := by unfold rightQ; infer_instance
def vipZ : Array Value := #[.bool false, .int .u64 0, .int .u64 0, .int .i64 0, .int .i64 0, .int .i64 0, .bool false]
theorem vipA_one (a : Bool) (b c d e f : Int) (g : Bool) : (#[.bool a, .int .u64 b, .int .u64 c, .int .i64 d, .int .i64 e, .int .i64 f, .bool g] : Array Value).all (·.oneCell') = true := all_oneCell_toArray (by
  intro v hv
  simp only [List.mem_cons, List.not_mem_nil, or_false] at hv
  rcases hv with rfl | rfl | rfl | rfl | rfl | rfl | rfl <;> rfl)
theorem alloc_vip (o : Oper) (h : o.op = .alloc 49) (ρ : Operand → Value) (w : World) : (execOp ρ o).run Try.prog w = .ok (.value (.pointer (some ⟨w.heap.size, 0, none⟩))) (w.alloc (.cells vipZ 49)) := by
  obtain ⟨d, op, t, ps, af, g⟩ := o
  dsimp only at h
  subst h
  kernel_rfl
set_option maxRecDepth 20000 in
set_option maxHeartbeats 8000000 in
theorem right_any (p : PlanL) (B : Bool) (hB : decide (rightQ p) = B) (w : World) : Calls Try.prog 21 #[.agg (plA p)] w fun e w' => e = .returned (.bool B) ∧ Below w.heap.size w w' := by
  unfold plA
  obtain ⟨w1, hw1⟩ : ∃ w1, w.alloc (.cells #[.int .u64 (p.key : Int), .int .i64 p.cl, .int .i64 p.po, .bool p.v6, .int .u64 (p.hi : Int), .int .u64 (p.lo : Int), .int .i64 p.pr, .int .i64 p.vp, .int .i64 p.co, .bool p.na, .int .i64 p.mo] 51) = w1 := ⟨_, rfl⟩
  have hB1 : Below w.heap.size w w1 := hw1 ▸ (Below.refl _ _).alloc (Nat.le_refl _) _
  have hg : w1.heap[w.heap.size]? = some (.cells #[.int .u64 (p.key : Int), .int .i64 p.cl, .int .i64 p.po, .bool p.v6, .int .u64 (p.hi : Int), .int .u64 (p.lo : Int), .int .i64 p.pr, .int .i64 p.vp, .int .i64 p.co, .bool p.na, .int .i64 p.mo] 51 (0, 0)) := hw1 ▸ blk_new _ _ _
  have hc := blk_cell hg
  have b1 : (p.cl : Int) = p.cl := rfl
  clear b1
  replace hB := hide hB
  replace hB1 := hide hB1
  replace hg := hide hg
  go_enter Try.func21, Try.ntmps21
  go_upto_region 1 with fail
  clear hw1
  by_cases c1 : (1 : Int) ≤ p.cl
  case neg =>
    obtain rfl : false = B := by
      rw [← hB.out]
      symm
      rw [decide_eq_false_iff_not]
      rintro ⟨a1, a2, a3, a4, a5, a6, a7, a8, a9, a10⟩
      omega
    clear hB
    go_wp2_with fail
    go_ret
    exact ⟨rfl, hB1.out⟩
  by_cases c2 : p.cl ≤ 65536
  case neg =>
    obtain rfl : false = B := by
      rw [← hB.out]
      symm
      rw [decide_eq_false_iff_not]
      rintro ⟨a1, a2, a3, a4, a5, a6, a7, a8, a9, a10⟩
      omega
    clear hB
    go_wp2_with fail
    go_ret
    exact ⟨rfl, hB1.out⟩
  by_cases c3 : (1 : Int) ≤ p.po
  case neg =>
    obtain rfl : false = B := by
      rw [← hB.out]
      symm
      rw [decide_eq_false_iff_not]
      rintro ⟨a1, a2, a3, a4, a5, a6, a7, a8, a9, a10⟩
      omega
    clear hB
    go_wp2_with fail
    go_ret
    exact ⟨rfl, hB1.out⟩
  by_cases c4 : p.po ≤ 32768
  case neg =>
    obtain rfl : false = B := by
      rw [← hB.out]
      symm
      rw [decide_eq_false_iff_not]
      rintro ⟨a1, a2, a3, a4, a5, a6, a7, a8, a9, a10⟩
      omega
    clear hB
    go_wp2_with fail
    go_ret
    exact ⟨rfl, hB1.out⟩
  by_cases c5 : (0 : Int) ≤ p.mo
  case neg =>
    obtain rfl : false = B := by
      rw [← hB.out]
      symm
      rw [decide_eq_false_iff_not]
      rintro ⟨a1, a2, a3, a4, a5, a6, a7, a8, a9, a10⟩
      omega
    clear hB
    go_wp2_with fail
    go_ret
    exact ⟨rfl, hB1.out⟩
  by_cases c6 : p.mo ≤ 1400
  case neg =>
    obtain rfl : false = B := by
      rw [← hB.out]
      symm
      rw [decide_eq_false_iff_not]
      rintro ⟨a1, a2, a3, a4, a5, a6, a7, a8, a9, a10⟩
      omega
    clear hB
    go_wp2_with fail
    go_ret
    exact ⟨rfl, hB1.out⟩
  by_cases c7 : Four.okA p.v6 (p.hi : Int) (p.lo : Int) = true
  case neg =>
    rw [Bool.not_eq_true] at c7
    replace c7 := hide c7
    obtain rfl : false = B := by
      rw [← hB.out]
      symm
      rw [decide_eq_false_iff_not]
      rintro ⟨a1, a2, a3, a4, a5, a6, a7, a8, a9, a10⟩
      rw [c7.out] at a7
      cases a7
    clear hB
    go_wp2_with fail
    refine (Four.addr_right _ _ _ _ _ c7.out).mono ?_
    rintro e w9 ⟨rfl, hb9⟩
    have hB9 := hB1.out.trans (hb9.mono hB1.out.size)
    clear hb9 hc
    replace hB9 := hide hB9
    go_wp2_with fail
    go_ret
    exact ⟨rfl, hB9.out⟩
  replace c7 := hide c7
  have hpr : (p.pr = 6 ∧ (p.pr == 6) = true) ∨ (p.pr ≠ 6 ∧ p.pr = 17 ∧ (p.pr == 6) = false ∧ (p.pr == 17) = true) ∨ (p.pr ≠ 6 ∧ p.pr ≠ 17 ∧ (p.pr == 6) = false ∧ (p.pr == 17) = false) := by
    by_cases h6 : p.pr = 6
    · exact .inl ⟨h6, by rw [h6]; rfl⟩
    · by_cases h17 : p.pr = 17
      · exact .inr (.inl ⟨h6, h17, beq_eq_false_iff_ne.2 h6, by rw [h17]; rfl⟩)
      · exact .inr (.inr ⟨h6, h17, beq_eq_false_iff_ne.2 h6, beq_eq_false_iff_ne.2 h17⟩)
  have hvp : (0 : Int) ≤ p.vp ∧ p.vp ≤ 65535 ∨ (0 : Int) ≤ p.vp ∧ ¬ p.vp ≤ 65535 ∨ ¬ (0 : Int) ≤ p.vp := by omega
  rcases hpr with ⟨k1, t1⟩ | ⟨k1, k2, t1, t2⟩ | ⟨k1, k2, t1, t2⟩
  · rcases hvp with ⟨v1, v2⟩ | ⟨v1, v2⟩ | v1
    · skip
      obtain rfl : true = B := by
        rw [← hB.out]
        symm
        exact decide_eq_true ⟨c1, c2, c3, c4, c5, c6, c7.out, by omega, v1, v2⟩
      clear hB k1
      go_wp2_with fail
      refine (Four.addr_right _ _ _ _ _ c7.out).mono ?_
      rintro e w9 ⟨rfl, hb9⟩
      have hB9 := hB1.out.trans (hb9.mono hB1.out.size)
      have hg9 := blk_on hb9 hg.out
      clear hb9 hc
      have hc := blk_cell hg9
      clear hg9
      replace hB9 := hide hB9
      go_wp2_with fail
      go_ret
      exact ⟨by first | rfl | (show Ending.returned (.bool (decide (p.vp ≤ 65535))) = _; rw [decide_eq_false (by omega)]), hB9.out⟩
    · skip
      obtain rfl : false = B := by
        rw [← hB.out]
        symm
        rw [decide_eq_false_iff_not]
        rintro ⟨a1, a2, a3, a4, a5, a6, a7, a8, a9, a10⟩
        omega
      clear hB k1
      go_wp2_with fail
      refine (Four.addr_right _ _ _ _ _ c7.out).mono ?_
      rintro e w9 ⟨rfl, hb9⟩
      have hB9 := hB1.out.trans (hb9.mono hB1.out.size)
      have hg9 := blk_on hb9 hg.out
      clear hb9 hc
      have hc := blk_cell hg9
      clear hg9
      replace hB9 := hide hB9
      go_wp2_with fail
      go_ret
      exact ⟨by first | rfl | (show Ending.returned (.bool (decide (p.vp ≤ 65535))) = _; rw [decide_eq_false (by omega)]), hB9.out⟩
    · skip
      obtain rfl : false = B := by
        rw [← hB.out]
        symm
        rw [decide_eq_false_iff_not]
        rintro ⟨a1, a2, a3, a4, a5, a6, a7, a8, a9, a10⟩
        omega
      clear hB k1
      go_wp2_with fail
      refine (Four.addr_right _ _ _ _ _ c7.out).mono ?_
      rintro e w9 ⟨rfl, hb9⟩
      have hB9 := hB1.out.trans (hb9.mono hB1.out.size)
      have hg9 := blk_on hb9 hg.out
      clear hb9 hc
      have hc := blk_cell hg9
      clear hg9
      replace hB9 := hide hB9
      go_wp2_with fail
      go_ret
      exact ⟨by first | rfl | (show Ending.returned (.bool (decide (p.vp ≤ 65535))) = _; rw [decide_eq_false (by omega)]), hB9.out⟩
  · rcases hvp with ⟨v1, v2⟩ | ⟨v1, v2⟩ | v1
    · skip
      obtain rfl : true = B := by
        rw [← hB.out]
        symm
        exact decide_eq_true ⟨c1, c2, c3, c4, c5, c6, c7.out, by omega, v1, v2⟩
      clear hB k1 k2
      go_wp2_with fail
      refine (Four.addr_right _ _ _ _ _ c7.out).mono ?_
      rintro e w9 ⟨rfl, hb9⟩
      have hB9 := hB1.out.trans (hb9.mono hB1.out.size)
      have hg9 := blk_on hb9 hg.out
      clear hb9 hc
      have hc := blk_cell hg9
      clear hg9
      replace hB9 := hide hB9
      go_wp2_with fail
      go_ret
      exact ⟨by first | rfl | (show Ending.returned (.bool (decide (p.vp ≤ 65535))) = _; rw [decide_eq_false (by omega)]), hB9.out⟩
    · skip
      obtain rfl : false = B := by
        rw [← hB.out]
        symm
        rw [decide_eq_false_iff_not]
        rintro ⟨a1, a2, a3, a4, a5, a6, a7, a8, a9, a10⟩
        omega
      clear hB k1 k2
      go_wp2_with fail
      refine (Four.addr_right _ _ _ _ _ c7.out).mono ?_
      rintro e w9 ⟨rfl, hb9⟩
      have hB9 := hB1.out.trans (hb9.mono hB1.out.size)
      have hg9 := blk_on hb9 hg.out
      clear hb9 hc
      have hc := blk_cell hg9
      clear hg9
      replace hB9 := hide hB9
      go_wp2_with fail
      go_ret
      exact ⟨by first | rfl | (show Ending.returned (.bool (decide (p.vp ≤ 65535))) = _; rw [decide_eq_false (by omega)]), hB9.out⟩
    · skip
      obtain rfl : false = B := by
        rw [← hB.out]
        symm
        rw [decide_eq_false_iff_not]
        rintro ⟨a1, a2, a3, a4, a5, a6, a7, a8, a9, a10⟩
        omega
      clear hB k1 k2
      go_wp2_with fail
      refine (Four.addr_right _ _ _ _ _ c7.out).mono ?_
      rintro e w9 ⟨rfl, hb9⟩
      have hB9 := hB1.out.trans (hb9.mono hB1.out.size)
      have hg9 := blk_on hb9 hg.out
      clear hb9 hc
      have hc := blk_cell hg9
      clear hg9
      replace hB9 := hide hB9
      go_wp2_with fail
      go_ret
      exact ⟨by first | rfl | (show Ending.returned (.bool (decide (p.vp ≤ 65535))) = _; rw [decide_eq_false (by omega)]), hB9.out⟩
  · skip
    obtain rfl : false = B := by
      rw [← hB.out]
      symm
      rw [decide_eq_false_iff_not]
      rintro ⟨a1, a2, a3, a4, a5, a6, a7, a8, a9, a10⟩
      omega
    clear hB k1 k2
    clear hvp
    go_wp2_with fail
    refine (Four.addr_right _ _ _ _ _ c7.out).mono ?_
    rintro e w9 ⟨rfl, hb9⟩
    have hB9 := hB1.out.trans (hb9.mono hB1.out.size)
    have hg9 := blk_on hb9 hg.out
    clear hb9 hc
    have hc := blk_cell hg9
    clear hg9
    replace hB9 := hide hB9
    go_wp2_with fail
    go_ret
    exact ⟨by first | rfl | (show Ending.returned (.bool (decide (p.vp ≤ 65535))) = _; rw [decide_eq_false (by omega)]), hB9.out⟩
set_option maxRecDepth 20000 in
set_option maxHeartbeats 8000000 in
theorem lright_any (p : PlanL) (B : Bool) (hB : decide (rightQ p) = B) (w : World) : Calls Try.prog 22 #[.agg (plA p)] w fun e w' => e = .returned (.bool B) ∧ Below w.heap.size w w' := by
  unfold plA
  obtain ⟨w1, hw1⟩ : ∃ w1, w.alloc (.cells #[.int .u64 (p.key : Int), .int .i64 p.cl, .int .i64 p.po, .bool p.v6, .int .u64 (p.hi : Int), .int .u64 (p.lo : Int), .int .i64 p.pr, .int .i64 p.vp, .int .i64 p.co, .bool p.na, .int .i64 p.mo] 51) = w1 := ⟨_, rfl⟩
  have hB1 : Below w.heap.size w w1 := hw1 ▸ (Below.refl _ _).alloc (Nat.le_refl _) _
  have hg : w1.heap[w.heap.size]? = some (.cells #[.int .u64 (p.key : Int), .int .i64 p.cl, .int .i64 p.po, .bool p.v6, .int .u64 (p.hi : Int), .int .u64 (p.lo : Int), .int .i64 p.pr, .int .i64 p.vp, .int .i64 p.co, .bool p.na, .int .i64 p.mo] 51 (0, 0)) := hw1 ▸ blk_new _ _ _
  have hc := blk_cell hg
  have b1 : (p.cl : Int) = p.cl := rfl
  clear b1
  replace hB := hide hB
  replace hB1 := hide hB1
  replace hg := hide hg
  go_enter Try.func22, Try.ntmps22
  go_upto_region 1 with fail
  apply wp_region_lit
  iterate 2 (refine wpList_plain rfl fun K hK => ?_; go_simp; refine hK _ _ ?_; clear hK K)
  refine wpl_new rfl rfl 49 _ (alloc_vip _ rfl) 3 rfl (.tmp 5) rfl _ (fun _ => rfl) (fun _ => rfl) (by rfl) (by kernel_rfl) (vipA_one _ _ _ _ _ _ _) ?_
  intro w2 hg2 hb2 hz2
  refine wpList_nil ?_
  replace hB1 := hide (hB1.out.trans (hb2.mono hB1.out.size))
  replace hg := hide (blk_on hb2 hg.out)
  clear hc hb2
  have hc := blk_cell hg.out
  have hcv := blk_cell hg2
  replace hg2 := hide hg2
  go_upto_region 2 with fail
  clear hw1
  by_cases c1 : (1 : Int) ≤ p.cl
  case neg =>
    obtain rfl : false = B := by
      rw [← hB.out]
      symm
      rw [decide_eq_false_iff_not]
      rintro ⟨a1, a2, a3, a4, a5, a6, a7, a8, a9, a10⟩
      omega
    clear hB
    go_wp2_with fail
    go_ret
    exact ⟨rfl, hB1.out⟩
  by_cases c2 : p.cl ≤ 65536
  case neg =>
    obtain rfl : false = B := by
      rw [← hB.out]
      symm
      rw [decide_eq_false_iff_not]
      rintro ⟨a1, a2, a3, a4, a5, a6, a7, a8, a9, a10⟩
      omega
    clear hB
    go_wp2_with fail
    go_ret
    exact ⟨rfl, hB1.out⟩
  by_cases c3 : (1 : Int) ≤ p.po
  case neg =>
    obtain rfl : false = B := by
      rw [← hB.out]
      symm
      rw [decide_eq_false_iff_not]
      rintro ⟨a1, a2, a3, a4, a5, a6, a7, a8, a9, a10⟩
      omega
    clear hB
    go_wp2_with fail
    go_ret
    exact ⟨rfl, hB1.out⟩
  by_cases c4 : p.po ≤ 32768
  case neg =>
    obtain rfl : false = B := by
      rw [← hB.out]
      symm
      rw [decide_eq_false_iff_not]
      rintro ⟨a1, a2, a3, a4, a5, a6, a7, a8, a9, a10⟩
      omega
    clear hB
    go_wp2_with fail
    go_ret
    exact ⟨rfl, hB1.out⟩
  by_cases c5 : (0 : Int) ≤ p.mo
  case neg =>
    obtain rfl : false = B := by
      rw [← hB.out]
      symm
      rw [decide_eq_false_iff_not]
      rintro ⟨a1, a2, a3, a4, a5, a6, a7, a8, a9, a10⟩
      omega
    clear hB
    go_wp2_with fail
    go_ret
    exact ⟨rfl, hB1.out⟩
  by_cases c6 : p.mo ≤ 1400
  case neg =>
    obtain rfl : false = B := by
      rw [← hB.out]
      symm
      rw [decide_eq_false_iff_not]
      rintro ⟨a1, a2, a3, a4, a5, a6, a7, a8, a9, a10⟩
      omega
    clear hB
    go_wp2_with fail
    go_ret
    exact ⟨rfl, hB1.out⟩
  by_cases c7 : Four.okA p.v6 (p.hi : Int) (p.lo : Int) = true
  case neg =>
    rw [Bool.not_eq_true] at c7
    replace c7 := hide c7
    obtain rfl : false = B := by
      rw [← hB.out]
      symm
      rw [decide_eq_false_iff_not]
      rintro ⟨a1, a2, a3, a4, a5, a6, a7, a8, a9, a10⟩
      rw [c7.out] at a7
      cases a7
    clear hB
    go_wp2_with fail
    refine (Four.addr_right _ _ _ _ _ c7.out).mono ?_
    rintro e w9 ⟨rfl, hb9⟩
    have hB9 := hB1.out.trans (hb9.mono hB1.out.size)
    clear hb9 hc hcv
    replace hB9 := hide hB9
    go_wp2_with fail
    go_ret
    exact ⟨rfl, hB9.out⟩
  replace c7 := hide c7
  have hpr : (p.pr = 6 ∧ (p.pr == 6) = true) ∨ (p.pr ≠ 6 ∧ p.pr = 17 ∧ (p.pr == 6) = false ∧ (p.pr == 17) = true) ∨ (p.pr ≠ 6 ∧ p.pr ≠ 17 ∧ (p.pr == 6) = false ∧ (p.pr == 17) = false) := by
    by_cases h6 : p.pr = 6
    · exact .inl ⟨h6, by rw [h6]; rfl⟩
    · by_cases h17 : p.pr = 17
      · exact .inr (.inl ⟨h6, h17, beq_eq_false_iff_ne.2 h6, by rw [h17]; rfl⟩)
      · exact .inr (.inr ⟨h6, h17, beq_eq_false_iff_ne.2 h6, beq_eq_false_iff_ne.2 h17⟩)
  have hvp : (0 : Int) ≤ p.vp ∧ p.vp ≤ 65535 ∨ (0 : Int) ≤ p.vp ∧ ¬ p.vp ≤ 65535 ∨ ¬ (0 : Int) ≤ p.vp := by omega
  rcases hpr with ⟨k1, t1⟩ | ⟨k1, k2, t1, t2⟩ | ⟨k1, k2, t1, t2⟩
  · rcases hvp with ⟨v1, v2⟩ | ⟨v1, v2⟩ | v1
    · skip
      obtain rfl : true = B := by
        rw [← hB.out]
        symm
        exact decide_eq_true ⟨c1, c2, c3, c4, c5, c6, c7.out, by omega, v1, v2⟩
      clear hB k1
      go_wp2_with fail
      refine (Four.addr_right _ _ _ _ _ c7.out).mono ?_
      rintro e w9 ⟨rfl, hb9⟩
      have hB9 := hB1.out.trans (hb9.mono hB1.out.size)
      have hg9 := blk_on hb9 hg.out
      have hgv9 := blk_on hb9 hg2.out
      clear hb9 hc hcv
      have hc := blk_cell hg9
      clear hg9
      have hcv := blk_cell hgv9
      clear hgv9
      replace hB9 := hide hB9
      go_wp2_with fail
      go_ret
      exact ⟨by first | rfl | (show Ending.returned (.bool (decide (p.vp ≤ 65535))) = _; rw [decide_eq_false (by omega)]), hB9.out⟩
    · skip
      obtain rfl : false = B := by
        rw [← hB.out]
        symm
        rw [decide_eq_false_iff_not]
        rintro ⟨a1, a2, a3, a4, a5, a6, a7, a8, a9, a10⟩
        omega
      clear hB k1
      go_wp2_with fail
      refine (Four.addr_right _ _ _ _ _ c7.out).mono ?_
      rintro e w9 ⟨rfl, hb9⟩
      have hB9 := hB1.out.trans (hb9.mono hB1.out.size)
      have hg9 := blk_on hb9 hg.out
      have hgv9 := blk_on hb9 hg2.out
      clear hb9 hc hcv
      have hc := blk_cell hg9
      clear hg9
      have hcv := blk_cell hgv9
      clear hgv9
      replace hB9 := hide hB9
      go_wp2_with fail
      go_ret
      exact ⟨by first | rfl | (show Ending.returned (.bool (decide (p.vp ≤ 65535))) = _; rw [decide_eq_false (by omega)]), hB9.out⟩
    · skip
      obtain rfl : false = B := by
        rw [← hB.out]
        symm
        rw [decide_eq_false_iff_not]
        rintro ⟨a1, a2, a3, a4, a5, a6, a7, a8, a9, a10⟩
        omega
      clear hB k1
      go_wp2_with fail
      refine (Four.addr_right _ _ _ _ _ c7.out).mono ?_
      rintro e w9 ⟨rfl, hb9⟩
      have hB9 := hB1.out.trans (hb9.mono hB1.out.size)
      have hg9 := blk_on hb9 hg.out
      have hgv9 := blk_on hb9 hg2.out
      clear hb9 hc hcv
      have hc := blk_cell hg9
      clear hg9
      have hcv := blk_cell hgv9
      clear hgv9
      replace hB9 := hide hB9
      go_wp2_with fail
      go_ret
      exact ⟨by first | rfl | (show Ending.returned (.bool (decide (p.vp ≤ 65535))) = _; rw [decide_eq_false (by omega)]), hB9.out⟩
  · rcases hvp with ⟨v1, v2⟩ | ⟨v1, v2⟩ | v1
    · skip
      obtain rfl : true = B := by
        rw [← hB.out]
        symm
        exact decide_eq_true ⟨c1, c2, c3, c4, c5, c6, c7.out, by omega, v1, v2⟩
      clear hB k1 k2
      go_wp2_with fail
      refine (Four.addr_right _ _ _ _ _ c7.out).mono ?_
      rintro e w9 ⟨rfl, hb9⟩
      have hB9 := hB1.out.trans (hb9.mono hB1.out.size)
      have hg9 := blk_on hb9 hg.out
      have hgv9 := blk_on hb9 hg2.out
      clear hb9 hc hcv
      have hc := blk_cell hg9
      clear hg9
      have hcv := blk_cell hgv9
      clear hgv9
      replace hB9 := hide hB9
      go_wp2_with fail
      go_ret
      exact ⟨by first | rfl | (show Ending.returned (.bool (decide (p.vp ≤ 65535))) = _; rw [decide_eq_false (by omega)]), hB9.out⟩
    · skip
      obtain rfl : false = B := by
        rw [← hB.out]
        symm
        rw [decide_eq_false_iff_not]
        rintro ⟨a1, a2, a3, a4, a5, a6, a7, a8, a9, a10⟩
        omega
      clear hB k1 k2
      go_wp2_with fail
      refine (Four.addr_right _ _ _ _ _ c7.out).mono ?_
      rintro e w9 ⟨rfl, hb9⟩
      have hB9 := hB1.out.trans (hb9.mono hB1.out.size)
      have hg9 := blk_on hb9 hg.out
      have hgv9 := blk_on hb9 hg2.out
      clear hb9 hc hcv
      have hc := blk_cell hg9
      clear hg9
      have hcv := blk_cell hgv9
      clear hgv9
      replace hB9 := hide hB9
      go_wp2_with fail
      go_ret
      exact ⟨by first | rfl | (show Ending.returned (.bool (decide (p.vp ≤ 65535))) = _; rw [decide_eq_false (by omega)]), hB9.out⟩
    · skip
      obtain rfl : false = B := by
        rw [← hB.out]
        symm
        rw [decide_eq_false_iff_not]
        rintro ⟨a1, a2, a3, a4, a5, a6, a7, a8, a9, a10⟩
        omega
      clear hB k1 k2
      go_wp2_with fail
      refine (Four.addr_right _ _ _ _ _ c7.out).mono ?_
      rintro e w9 ⟨rfl, hb9⟩
      have hB9 := hB1.out.trans (hb9.mono hB1.out.size)
      have hg9 := blk_on hb9 hg.out
      have hgv9 := blk_on hb9 hg2.out
      clear hb9 hc hcv
      have hc := blk_cell hg9
      clear hg9
      have hcv := blk_cell hgv9
      clear hgv9
      replace hB9 := hide hB9
      go_wp2_with fail
      go_ret
      exact ⟨by first | rfl | (show Ending.returned (.bool (decide (p.vp ≤ 65535))) = _; rw [decide_eq_false (by omega)]), hB9.out⟩
  · skip
    obtain rfl : false = B := by
      rw [← hB.out]
      symm
      rw [decide_eq_false_iff_not]
      rintro ⟨a1, a2, a3, a4, a5, a6, a7, a8, a9, a10⟩
      omega
    clear hB k1 k2
    clear hvp
    go_wp2_with fail
    refine (Four.addr_right _ _ _ _ _ c7.out).mono ?_
    rintro e w9 ⟨rfl, hb9⟩
    have hB9 := hB1.out.trans (hb9.mono hB1.out.size)
    have hg9 := blk_on hb9 hg.out
    have hgv9 := blk_on hb9 hg2.out
    clear hb9 hc hcv
    have hc := blk_cell hg9
    clear hg9
    have hcv := blk_cell hgv9
    clear hgv9
    replace hB9 := hide hB9
    go_wp2_with fail
    go_ret
    exact ⟨by first | rfl | (show Ending.returned (.bool (decide (p.vp ≤ 65535))) = _; rw [decide_eq_false (by omega)]), hB9.out⟩
end Gen35
end Go.Proofs.Ytfmmmjaficbchaa
