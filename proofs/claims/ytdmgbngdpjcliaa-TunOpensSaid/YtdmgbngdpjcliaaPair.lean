/- Two calls of a drawn region that may come up in either order, each making memory of its own: what each yields holds on in every later world, and the walk goes on once. No condition. -/
import Derived.Test.YtdmgbngdpjcliaaRegion
namespace Go.Proofs.Ytdmgbngdpjcliaa
open Go.RowKit
section
variable {P : Program} {Q : Exit → Act → World → Prop} {md : Region.Mode}
/-- An operation, carried out in any later world, yields what S says. -/
def YieldsS (P : Program) (Q : Exit → Act → World → Prop) (ops : Array Oper) (w0 : World) (o : Oper) (a : Act) (S : Value → World → Prop) : Prop :=
  ∀ l : Later w0, ∀ K : Act → World → Prop, (∀ v w', LaterThan l.w w' → S v w' → K (a.put o.dst v) w') →
    if Region.wanted o (yielded ops a.tmps) then o.wp P a l.w K Q else K (a.put o.dst undef) l.w
theorem wpE_pair (i j : Nat) (Si Sj : Value → World → Prop) {L : List Oper} {oi oj : Oper} {ri rj : List Oper} {fuel : Nat} {listed : Array Bool} {a : Act} {w : World}
    (hi : L.drop i = oi :: ri) (hj : L.drop j = oj :: rj) (hrd : Region.ready md L.toArray listed = [i, j])
    (hrdi : Region.ready md L.toArray (listed.setIfInBounds i true) = [j]) (hrdj : Region.ready md L.toArray (listed.setIfInBounds j true) = [i])
    (hij : (i == j) = false) (hc : ∀ u v, (a.put oj.dst v).put oi.dst u = (a.put oi.dst u).put oj.dst v)
    (hsi : ∀ v w1 w2, LaterThan w1 w2 → Si v w1 → Si v w2) (hsj : ∀ v w1 w2, LaterThan w1 w2 → Sj v w1 → Sj v w2)
    (hi1 : YieldsS P Q L.toArray w oi a Si) (hj1 : YieldsS P Q L.toArray w oj a Sj)
    (hi2 : ∀ v, YieldsS P Q L.toArray w oi (a.put oj.dst v) Si) (hj2 : ∀ u, YieldsS P Q L.toArray w oj (a.put oi.dst u) Sj)
    (hK : ∀ u v, ∀ l : Later w, Si u l.w → Sj v l.w → wpE P md L.toArray Q LaterThan fuel ((listed.setIfInBounds i true).setIfInBounds j true) ((a.put oi.dst u).put oj.dst v) l.w) :
    wpE P md L.toArray Q LaterThan (fuel + 2) listed a w := by
  have hne : i ≠ j := by simpa using hij
  refine wpE_two i j (at_drop hi) (at_drop hj) hrd (fun w1 hw1 K hKK => ?_) (fun w1 hw1 K hKK => ?_)
  · refine hi1 ⟨w1, hw1⟩ K fun u w2 h2 hu => hKK _ _ h2 ?_
    refine wpE_one j (at_drop hj) hrdi fun w3 hw3 K' hKK' => ?_
    refine hj2 u ⟨w3, lt_trans _ _ _ hw1 (lt_trans _ _ _ h2 hw3)⟩ K' fun v w4 h4 hv => hKK' _ _ h4 ?_
    exact hK u v ⟨w4, lt_trans _ _ _ hw1 (lt_trans _ _ _ h2 (lt_trans _ _ _ hw3 h4))⟩ (hsi _ _ _ (lt_trans _ _ _ hw3 h4) hu) hv
  · refine hj1 ⟨w1, hw1⟩ K fun v w2 h2 hv => hKK _ _ h2 ?_
    refine wpE_one i (at_drop hi) hrdj fun w3 hw3 K' hKK' => ?_
    refine hi2 v ⟨w3, lt_trans _ _ _ hw1 (lt_trans _ _ _ h2 hw3)⟩ K' fun u w4 h4 hu => hKK' _ _ h4 ?_
    have h := hK u v ⟨w4, lt_trans _ _ _ hw1 (lt_trans _ _ _ h2 (lt_trans _ _ _ hw3 h4))⟩ hu (hsj _ _ _ (lt_trans _ _ _ hw3 h4) hv)
    rw [hc, Array.setIfInBounds_comm _ _ (Ne.symm hne)]
    exact h
end
end Go.Proofs.Ytdmgbngdpjcliaa
