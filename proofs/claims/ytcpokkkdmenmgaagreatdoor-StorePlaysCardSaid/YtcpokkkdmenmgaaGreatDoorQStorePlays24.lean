/- store, the law, plain: what each call makes of what both stores have. No condition. -/
import Derived.Test.YtcpokkkdmenmgaaGreatDoorQStorePlays23
import Derived.Test.YtcpokkkdmenmgaaGreatDoorQStorePlays3
import Derived.Test.YtcpokkkdmenmgaaGreatDoorQStorePlays19
namespace Go.Proofs.YtcpokkkdmenmgaaGreatDoor
open Go.RowKit Go.ChangeShapes Go.WideShapes Go.ChangeAt Go.Deep
namespace Store20
open Conf18 (Nd Vp Vw Cfg zA confF)
open Val19
theorem loadP_keep (P : Pl) (t : List UInt8) : (loadP P t).1.made = P.made ∧ (loadP P t).1.op = P.op ∧ (loadP P t).1.fr = P.fr ∧ (loadP P t).1.wait = P.wait := by
  unfold loadP
  split
  · exact ⟨rfl, rfl, rfl, rfl⟩
  · split
    · exact ⟨rfl, rfl, rfl, rfl⟩
    · exact ⟨rfl, rfl, rfl, rfl⟩
theorem weightP_keep (P : Pl) (s : List UInt8) (x : Int) : (weightP P s x).1.made = P.made ∧ (weightP P s x).1.op = P.op ∧ (weightP P s x).1.fr = P.fr ∧ (weightP P s x).1.wait = P.wait := by
  unfold weightP
  split
  · exact ⟨rfl, rfl, rfl, rfl⟩
  · split
    · exact ⟨rfl, rfl, rfl, rfl⟩
    · split
      · exact ⟨rfl, rfl, rfl, rfl⟩
      · exact ⟨rfl, rfl, rfl, rfl⟩
theorem TxRel.of {P P' : Pl} {TO : Option Tx} (h : TxRel P TO) (h1 : P'.made = P.made ∧ P'.op = P.op ∧ P'.fr = P.fr ∧ P'.wait = P.wait) : TxRel P' TO := by
  obtain ⟨e1, e2, e3, e4⟩ := h1
  rcases TO with _ | T
  · exact ⟨e1.trans h.1, e4.trans h.2⟩
  · obtain ⟨a1, a2, a3, a4, a5, a6⟩ := h
    exact ⟨e1.trans a1, by rw [e2]; exact a2, by rw [e3]; exact a3, by rw [e4]; exact a4, by rw [e4]; exact a5, by rw [e4]; exact a6⟩
section
variable {m : Nat} {S : St} {P : Pl} {TO : Option Tx}
theorem Rel.more {m' : Nat} (h : Rel m S P TO) (hm : m ≤ m') : Rel m' S P TO := ⟨h.al, h.ok, Nat.le_trans h.gen hm, Nat.le_trans h.sets hm, h.tx⟩
theorem loadS_n (S : St) (t : List UInt8) : (loadS S t).1.gen ≤ S.gen + 1 := by
  unfold loadS
  split
  · exact Nat.le_succ _
  · split
    · exact Nat.le_succ _
    · exact Nat.le_refl _
theorem weightS_n (S : St) (y : List UInt8) (x : Int) : (weightS S y x).1.gen ≤ S.gen + 1 := by
  unfold weightS
  split
  · exact Nat.le_succ _
  · split
    · exact Nat.le_succ _
    · split
      · exact Nat.le_succ _
      · exact Nat.le_refl _
theorem Rel.load (h : Rel m S P TO) {t : List UInt8} (ht : t.length ≤ 65536) : (loadS S t).2 = (loadP P t).2 ∧ Rel (m + 1) (loadS S t).1 (loadP P t).1 TO := by
  obtain ⟨h1, h2⟩ := h.al.load t
  have h3 := loadS_n S t
  have h4 := (loadP_n P t).2
  have := h.gen
  have := h.sets
  exact ⟨h1, h2, loadP_ok h.ok ht, by omega, by omega, h.tx.of (loadP_keep P t)⟩
theorem Rel.weight (h : Rel m S P TO) (y : List UInt8) (x : Int) : (weightS S y x).2 = (weightP P y x).2 ∧ Rel (m + 1) (weightS S y x).1 (weightP P y x).1 TO := by
  obtain ⟨h1, h2⟩ := h.al.weight y x
  have h3 := weightS_n S y x
  have h4 := (weightP_n P y x).2
  have := h.gen
  have := h.sets
  exact ⟨h1, h2, weightP_ok h.ok y x, by omega, by omega, h.tx.of (weightP_keep P y x)⟩
theorem TellsL.snoc {cs : List Ch} {os : List Wo} {c : Ch} {o : Wo} (h : TellsL cs os) (hc : Tells c o) : TellsL (cs ++ [c]) (os ++ [o]) := by
  refine ⟨by simp [h.1], fun i c' o' h1 h2 => ?_⟩
  by_cases hi : i < cs.length
  · rw [List.getElem?_append_left hi] at h1
    rw [List.getElem?_append_left (by rw [← h.1]; exact hi)] at h2
    exact h.2 i c' o' h1 h2
  · rw [List.getElem?_append_right (by omega)] at h1
    rw [List.getElem?_append_right (by rw [← h.1]; omega)] at h2
    have e : i - cs.length = 0 := by
      have := (List.getElem?_eq_some_iff.1 h1).1
      simp at this
      omega
    rw [e] at h1
    rw [← h.1, e] at h2
    cases h1
    cases h2
    exact hc
theorem Rel.add (h : Rel m S P TO) {c : Ch} {o : Wo} (hc : Tells c o) (ho : o.text.length ≤ 65536 ∧ o.name.length ≤ maxLen) : (addO TO c).2 = (addP P o).2 ∧ Rel m S (addP P o).1 (addO TO c).1 := by
  have ht := h.tx
  rcases TO with _ | T
  · have e : addP P o = (P, 9) := if_pos (.inl ht.1)
    rw [e]
    exact ⟨rfl, h⟩
  · obtain ⟨a1, a2, a3, a4, a5, a6⟩ := ht
    show (addT T c).2 = _ ∧ Rel m S _ (some (addT T c).1)
    unfold addT addP
    by_cases hop : P.op = true
    · rw [if_neg (show ¬T.over = true by rw [a2, hop]; decide), if_neg (show ¬(P.made = false ∨ P.op = false) by rw [a1, hop]; decide), a4.1]
      by_cases h64 : 64 ≤ P.wait.length
      · rw [if_pos h64, if_pos h64]
        exact ⟨rfl, h⟩
      · rw [if_neg h64, if_neg h64]
        refine ⟨rfl, ⟨⟨h.al.c, h.al.gen, h.al.sets⟩, ⟨h.ok.v, h.ok.len⟩, h.gen, h.sets, a1, a2, a3, a4.snoc hc, by simp only [List.length_append, List.length_singleton]; omega, fun q hq => ?_⟩⟩
        rcases List.mem_append.1 hq with hq | hq
        · exact a6 q hq
        · rw [List.mem_singleton] at hq
          subst hq
          exact ho
    · have hop2 : P.op = false := by simpa using hop
      rw [if_pos (show T.over = true by rw [a2, hop2]; rfl), if_pos (show P.made = false ∨ P.op = false from .inr hop2)]
      exact ⟨rfl, h⟩
theorem Rel.drop (h : Rel m S P TO) : Rel m S { P with op := false } (dropO TO) := by
  refine ⟨⟨h.al.c, h.al.gen, h.al.sets⟩, ⟨h.ok.v, h.ok.len⟩, h.gen, h.sets, ?_⟩
  have ht := h.tx
  rcases TO with _ | T
  · exact ht
  · obtain ⟨a1, a2, a3, a4, a5, a6⟩ := ht
    exact ⟨a1, rfl, a3, a4, a5, a6⟩
theorem runP_n : ∀ (l : List Wo) (P X : Pl), runP P l = .ok X → X.sets.length ≤ P.sets.length + l.length
  | [], P, X, h => by cases h; exact Nat.le_refl _
  | o :: l, P, X, h => by
    rw [runP] at h
    split at h
    · have h1 := runP_n l _ X h
      have h2 := (chP_n P o).2
      rw [List.length_cons]
      omega
    · cases h
theorem runP_ok : ∀ (l : List Wo) (P X : Pl), P.ok → (∀ o ∈ l, o.text.length ≤ 65536) → runP P l = .ok X → X.ok
  | [], P, X, ho, _, h => by cases h; exact ho
  | o :: l, P, X, ho, hl, h => by
    rw [runP] at h
    split at h
    · exact runP_ok l _ X (chP_ok ho (hl o (by simp))) (fun q hq => hl q (by simp [hq])) h
    · cases h
theorem Rel.commit (h : Rel m S P TO) : (comO S TO).2 = (commitP P).2 ∧ Rel (m + 64) (comO S TO).1 (commitP P).1 (dropO TO) := by
  have ht := h.tx
  have hd := h.drop
  rcases TO with _ | T
  · have e : commitP P = (P, 9) := if_pos (.inl ht.1)
    rw [e]
    exact ⟨rfl, h.more (by omega)⟩
  · obtain ⟨a1, a2, a3, a4, a5, a6⟩ := ht
    show (commitS S T).2 = _ ∧ Rel (m + 64) (commitS S T).1 _ (some { T with over := true })
    unfold commitS commitP
    by_cases hop : P.op = true
    · rw [if_neg (show ¬T.over = true by rw [a2, hop]; decide), if_neg (show ¬(P.made = false ∨ P.op = false) by rw [a1, hop]; decide)]
      by_cases hfr : P.fr = P.gen
      · rw [if_neg (show ¬T.gen ≠ S.gen by rw [a3, h.al.gen]; exact fun e => e hfr), if_neg (show ¬P.fr ≠ P.gen from fun e => e hfr)]
        have hal : Alike S (startX P) := ⟨h.al.c, h.al.gen, h.al.sets⟩
        rcases Alike.run T.list P.wait S (startX P) hal a4 with ⟨e, e1, e2⟩ | ⟨S', X, e1, e2, h2⟩
        · rw [e1, e2]
          exact ⟨rfl, hd.more (by omega)⟩
        · rw [e1, e2]
          dsimp only
          have hn := runP_n P.wait (startX P) X e2
          have hsets : (startX P).sets.length = P.sets.length := rfl
          have hox := runP_ok P.wait (startX P) X ⟨h.ok.v, h.ok.len⟩ (fun o ho => (a6 o ho).1) e2
          have hgm := h.gen
          have hsm := h.sets
          have hge := h.al.gen
          by_cases hw : P.wait = []
          · have hl : T.list = [] := List.length_eq_zero_iff.1 (by rw [a4.1, hw]; rfl)
            have e3 : S' = S := by
              have := e1
              rw [hl] at this
              cases this
              rfl
            rw [if_pos hl, if_pos hw]
            refine ⟨rfl, ⟨⟨h2.c, ?_, h2.sets⟩, ⟨hox.v, hox.len⟩, ?_, ?_, a1, rfl, a3, a4, a5, a6⟩⟩
            · rw [e3]; exact hge
            · rw [e3]; omega
            · show X.sets.length ≤ _; omega
          · have hl : T.list ≠ [] := by
              intro e
              apply hw
              exact List.length_eq_zero_iff.1 (by rw [← a4.1, e]; rfl)
            rw [if_neg hl, if_neg hw]
            refine ⟨rfl, ⟨⟨h2.c, ?_, h2.sets⟩, ⟨hox.v, hox.len⟩, ?_, ?_, a1, rfl, a3, a4, a5, a6⟩⟩
            · show T.gen + 1 = P.gen + 1; rw [a3, hfr]
            · show T.gen + 1 ≤ _; omega
            · show X.sets.length ≤ _; omega
      · rw [if_pos (show T.gen ≠ S.gen by rw [a3, h.al.gen]; exact hfr), if_pos (show P.fr ≠ P.gen from hfr)]
        exact ⟨rfl, hd.more (by omega)⟩
    · have hop2 : P.op = false := by simpa using hop
      rw [if_pos (show T.over = true by rw [a2, hop2]; rfl), if_pos (show P.made = false ∨ P.op = false from .inr hop2)]
      have e : { P with op := false } = P := by
        obtain ⟨c, has, gen, sets, op, made, fr, wait⟩ := P
        dsimp only at hop2
        subst hop2
        rfl
      rw [e] at hd
      exact ⟨rfl, hd.more (by omega)⟩
end
end Store20
end Go.Proofs.YtcpokkkdmenmgaaGreatDoor
/- store, the law: step: a call of both. Conditions: texts of at most 65536 bytes, fewer than 2^39 changes. -/
namespace Go.Proofs.YtcpokkkdmenmgaaGreatDoor
open Go.RowKit Go.ChangeShapes Go.WideShapes Go.ChangeAt Go.Deep
namespace Store20
open Conf18 (Nd Vp Vw Cfg zA MapI lt_of_blk confF)
open Addr05 (Adr MaxAt)
open Val19
/-- A block stays. -/
def AtZ (z : Nat) (a b : World) : Prop := b.heap[z]? = a.heap[z]?
instance atZ_rel (z : Nat) : IsRel (AtZ z) := ⟨fun _ => rfl, fun _ _ _ h k => Eq.trans k h⟩
/-- What step leaves. -/
def StepTo (Z : Nat → Prop) (w w' : World) (B s p m : Nat) (tv : Value) : Prop := ∃ S P TO, ScE w' Z B s p m tv S P TO ∧ Rel m S P TO ∧ Below B w w' ∧ ∀ k, Z k → w'.heap[k]? = w.heap[k]?
theorem StepTo.mk' {Z : Nat → Prop} {z : Nat} {w w1 w' : World} {B s p m m' : Nat} {tv : Value} {S : St} {P : Pl} {TO : Option Tx} (h : ScE w' (fun k => Z k ∨ k = z) B s p m tv S P TO) (hr : Rel m S P TO) (hb : Below B w w') (hm : m ≤ m') (hk1 : ∀ k, Z k → w1.heap[k]? = w.heap[k]?) (hk : ∀ k, Z k ∨ k = z → w'.heap[k]? = w1.heap[k]?) : StepTo Z w w' B s p m' tv :=
  ⟨S, P, TO, (h.less fun _ => .inl).more hm, hr.more hm, hb, fun k hZ => (hk k (.inl hZ)).trans (hk1 k hZ)⟩
set_option maxRecDepth 20000 in
set_option maxHeartbeats 16000000 in
theorem step_any {Z : Nat → Prop} {B s p m : Nat} {tv : Value} {S : St} {P : Pl} {TO : Option Tx} (o : Wo) (w : World) (ht : o.text.length ≤ 65536) (hn : o.name.length ≤ maxLen) (h : ScE w Z B s p m tv S P TO) (hr : Rel m S P TO) (hm : m + 200 < big) :
    Calls Tryz.prog 6 #[.pointer (some ⟨s, 0, none⟩), tv, .pointer (some ⟨p, 0, none⟩), .agg #[.int .i64 o.kind, .string (str o.text), .string (str o.name), .int .i64 o.w]] w fun e w' => e = .returned (.bool true) ∧ StepTo Z w w' B s p (m + 65) tv := by
  obtain ⟨w1, hw1⟩ : ∃ w1, w.alloc (.cells #[.int .i64 o.kind, .string (str o.text), .string (str o.name), .int .i64 o.w] 40) = w1 := ⟨_, rfl⟩
  have hb1 : Below w.heap.size w w1 := hw1 ▸ (Below.refl _ _).alloc (Nat.le_refl _) _
  have hg1 : w1.heap[w.heap.size]? = some (.cells #[.int .i64 o.kind, .string (str o.text), .string (str o.name), .int .i64 o.w] 40 (0, 0)) := hw1 ▸ blk_new _ _ _
  have hz := h.size
  have h1 := h.fresh (z := w.heap.size) hb1 ⟨Nat.le_refl _, lt_of_blk hg1⟩
  have hB1 : Below B w w1 := hb1.mono hz
  have hkz : ∀ k, Z k → w1.heap[k]? = w.heap[k]? := by
    obtain ⟨mp, lo, hi, n, nv, a1, a2, a3, sv, wv, h⟩ := h
    exact fun k hk => hb1.block k (h.fz k hk).1
  have hgs := hr.gen
  have hge := hr.al.gen
  have hss := hr.sets
  obtain ⟨ok, ot, on, ow⟩ := o
  dsimp only at ht hn hw1 hg1 ⊢
  have d0 := blk_cell hg1 0
  have d1 := blk_cell hg1 1
  have d2 := blk_cell hg1 2
  have d3 := blk_cell hg1 3
  have hz1 := lt_of_blk hg1
  obtain ⟨z, hzz⟩ : ∃ z, w.heap.size = z := ⟨_, rfl⟩
  rw [hzz] at hz1 hg1 d0 d1 d2 d3 hz h1
  clear h hb1
  replace h1 := hide h1
  replace hB1 := hide hB1
  replace hr := hide hr
  replace hg1 := hide hg1
  replace hkz := hide hkz
  go_enter Tryz.func6, Tryz.ntmps6
  go_upto_region 1 with fail
  clear hw1
  by_cases k0 : ok = 0
  · subst k0
    obtain ⟨e1, hr2⟩ := hr.out.load ht
    have q1 := sc_load ot ht h1.out (by omega)
    obtain ⟨⟨N, E⟩, hNE⟩ : ∃ r, (loadS S ot).2 = r := ⟨_, rfl⟩
    rw [hNE] at q1 e1
    dsimp only at q1
    replace q1 := hide q1
    replace hr2 := hide hr2
    go_wp2_with fail
    refine (q1.out).mono ?_
    rintro e w2 ⟨rfl, h2, hB2, hk2⟩
    have q2 := sc_pload ot ht h2 (by omega)
    rw [← e1] at q2
    dsimp only at q2
    have hBB := hB1.out.trans hB2
    have d1 := blk_cell ((hk2 z (.inr rfl)).trans hg1.out) 1
    clear q1 h1 hB1 hB2 h2 d0 d2 d3
    replace q2 := hide q2
    replace hBB := hide hBB
    replace hk2 := hide hk2
    go_wp2_with fail
    refine (q2.out).mono ?_
    rintro e w3 ⟨rfl, h3, hB3, hk3⟩
    have hfin := StepTo.mk' (m' := m + 65) h3 hr2.out (hBB.out.trans hB3) (by omega) hkz.out (fun k hk => (hk3 k hk).trans (hk2.out k hk))
    clear q2 hBB hB3 h3 hk2 hk3 d1 hr hr2 hkz hg1
    replace hfin := hide hfin
    go_wp2_with fail
    go_ret
    exact ⟨rfl, hfin.out⟩
  by_cases k1 : ok = 1
  · subst k1
    obtain ⟨e1, hr2⟩ := hr.out.weight on ow
    have q1 := sc_weight on hn ow h1.out (by omega) (by omega)
    obtain ⟨N, hN⟩ : ∃ r, (weightS S on ow).2 = r := ⟨_, rfl⟩
    rw [hN] at q1 e1
    have hok := hr.out.ok
    clear q1
    replace hr2 := hide hr2
    replace hok := hide hok
    go_upto_region 10 with fail
    refine wp_region_X (AtZ z) (by as_aux_lemma => kernel_rfl) ?_
    intro w2 hbd
    have h2 := h1.out.below hbd
    have hB2 := hB1.out.trans (hbd.mono (by have := hB1.out.size; omega))
    have hg2 := blk_below hbd hz1 hg1.out
    have hk2 : ∀ k, Z k ∨ k = z → w2.heap[k]? = w1.heap[k]? := by
      obtain ⟨mp, lo, hi, n, nv, a1, a2, a3, sv, wv, h⟩ := h1.out
      exact fun k hk => hbd.block k (h.fz k hk).1
    have q1 := sc_weight on hn ow h2 (by omega) (by omega)
    rw [hN] at q1
    have l2 := fun l : RelW (AtZ z) w2 => blk_cell (Eq.trans l.hk hg2) 2
    have l3 := fun l : RelW (AtZ z) w2 => blk_cell (Eq.trans l.hk hg2) 3
    clear h1 hB1 hbd hg1 h2 hg2 d0 d1 d2 d3
    replace q1 := hide q1
    replace hB2 := hide hB2
    replace hk2 := hide hk2
    refine wpX_seg (AtZ z) 0 5 (fuel := 9) (by as_aux_lemma => kernel_rfl) (fun d _ _ _ _ h => by cases d <;> exact h) (by as_aux_lemma => kernel_rfl) (by as_aux_lemma => kernel_rfl) ?_
    simp only [List.drop_zero, List.take_succ_cons, List.take_zero]
    iterate 5 (refine wpQX_step (fun K hK => ?_); go_simp; refine hK _ ?_; clear hK K)
    refine wpQF_nil ?_
    refine wpX_seg (AtZ z) 6 5 (fuel := 4) (by as_aux_lemma => kernel_rfl) (fun d _ _ _ _ h => by cases d <;> exact h) (by as_aux_lemma => kernel_rfl) (by as_aux_lemma => kernel_rfl) ?_
    simp only [List.drop_succ_cons, List.drop_zero, List.take_succ_cons, List.take_zero]
    iterate 5 (refine wpQX_step (fun K hK => ?_); go_simp; refine hK _ ?_; clear hK K)
    refine wpQF_nil ?_
    clear l2 l3
    refine wpF_step 5 rfl (by as_aux_lemma => kernel_rfl) (fun K hK => ?_)
    go_simp
    go_at_call 16
    refine q1.out.mono ?_
    rintro e w3 ⟨rfl, h3, hB3, hk3⟩
    refine hK _ _ (hk3 z (.inr rfl)) ?_
    clear hK K
    have q2 := sc_pweight on ow h3 (by omega) (by omega) hok.out
    rw [← e1] at q2
    have hBB := hB2.out.trans hB3
    clear q1 hB2 hB3 h3
    replace q2 := hide q2
    replace hBB := hide hBB
    replace hk3 := hide hk3
    refine wpF_step 11 rfl (by as_aux_lemma => kernel_rfl) (fun K hK => ?_)
    go_simp
    go_at_call 17
    refine q2.out.mono ?_
    rintro e w4 ⟨rfl, h4, hB4, hk4⟩
    refine hK _ _ (hk4 z (.inr rfl)) ?_
    clear hK K
    have hfin := StepTo.mk' (m' := m + 65) h4 hr2.out (hBB.out.trans hB4) (by omega) hkz.out (fun k hk => ((hk4 k hk).trans (hk3.out k hk)).trans (hk2.out k hk))
    clear q2 hBB hB4 h4 hk2 hk3 hk4 hr hr2 hkz
    replace hfin := hide hfin
    refine wpF_step 12 rfl (by as_aux_lemma => kernel_rfl) (fun K hK => ?_)
    go_simp
    refine hK _ _ (IsRel.refl _) ?_
    clear hK K
    refine wpF_step 13 rfl (by as_aux_lemma => kernel_rfl) (fun K hK => ?_)
    go_simp
    refine hK _ _ (IsRel.refl _) ?_
    clear hK K
    refine wpF_done (by as_aux_lemma => kernel_rfl) ?_ 0
    go_wp2_with fail
    go_ret
    exact ⟨rfl, hfin.out⟩
  by_cases k3 : ok = 3
  · subst k3
    obtain ⟨e1, hr2⟩ := hr.out.add (c := ⟨ot, [], 0⟩) (o := ⟨3, ot, on, ow⟩) (by unfold Tells; rw [if_pos rfl]) ⟨ht, hn⟩
    obtain ⟨N, hN⟩ : ∃ r, (addO TO ⟨ot, [], 0⟩).2 = r := ⟨_, rfl⟩
    rw [hN] at e1
    replace hr2 := hide hr2
    go_upto_region 12 with fail
    refine wp_region_X (AtZ z) (by as_aux_lemma => kernel_rfl) ?_
    intro w2 hbd
    have h2 := h1.out.below hbd
    have hB2 := hB1.out.trans (hbd.mono (by have := hB1.out.size; omega))
    have hg2 := blk_below hbd hz1 hg1.out
    have hk2 : ∀ k, Z k ∨ k = z → w2.heap[k]? = w1.heap[k]? := by
      obtain ⟨mp, lo, hi, n, nv, a1, a2, a3, sv, wv, h⟩ := h1.out
      exact fun k hk => hbd.block k (h.fz k hk).1
    have q1 := sc_xload ot h2
    rw [hN] at q1
    have l0 := fun l : RelW (AtZ z) w2 => blk_cell (Eq.trans l.hk hg2) 0
    have l1 := fun l : RelW (AtZ z) w2 => blk_cell (Eq.trans l.hk hg2) 1
    have l2 := fun l : RelW (AtZ z) w2 => blk_cell (Eq.trans l.hk hg2) 2
    have l3 := fun l : RelW (AtZ z) w2 => blk_cell (Eq.trans l.hk hg2) 3
    clear h1 hB1 hbd hg1 h2 hg2 d0 d1 d2 d3
    replace q1 := hide q1
    replace hB2 := hide hB2
    replace hk2 := hide hk2
    refine wpX_seg (AtZ z) 0 3 (fuel := 6) (by as_aux_lemma => kernel_rfl) (fun d _ _ _ _ h => by cases d <;> exact h) (by as_aux_lemma => kernel_rfl) (by as_aux_lemma => kernel_rfl) ?_
    simp only [List.drop_zero, List.take_succ_cons, List.take_zero]
    iterate 3 (refine wpQX_step (fun K hK => ?_); go_simp; refine hK _ ?_; clear hK K)
    refine wpQF_nil ?_
    refine wpX_seg (AtZ z) 4 2 (fuel := 4) (by as_aux_lemma => kernel_rfl) (fun d _ _ _ _ h => by cases d <;> exact h) (by as_aux_lemma => kernel_rfl) (by as_aux_lemma => kernel_rfl) ?_
    simp only [List.drop_succ_cons, List.drop_zero, List.take_succ_cons, List.take_zero]
    iterate 2 (refine wpQX_step (fun K hK => ?_); go_simp; refine hK _ ?_; clear hK K)
    refine wpQF_nil ?_
    clear l0 l1 l2 l3
    refine wpF_step 3 rfl (by as_aux_lemma => kernel_rfl) (fun K hK => ?_)
    go_simp
    go_at_call 18
    refine q1.out.mono ?_
    rintro e w3 ⟨rfl, h3, hB3, hk3⟩
    refine hK _ _ (hk3 z (.inr rfl)) ?_
    clear hK K
    have q2 := sc_padd ⟨3, ot, on, ow⟩ h3
    rw [← e1] at q2
    dsimp only at q2
    have hBB := hB2.out.trans hB3
    clear q1 hB2 hB3 h3
    replace q2 := hide q2
    replace hBB := hide hBB
    replace hk3 := hide hk3
    refine wpF_step 6 rfl (by as_aux_lemma => kernel_rfl) (fun K hK => ?_)
    go_simp
    go_at_call 19
    refine q2.out.mono ?_
    rintro e w4 ⟨rfl, h4, hB4, hk4⟩
    refine hK _ _ (hk4 z (.inr rfl)) ?_
    clear hK K
    have hfin := StepTo.mk' (m' := m + 65) h4 hr2.out (hBB.out.trans hB4) (by omega) hkz.out (fun k hk => ((hk4 k hk).trans (hk3.out k hk)).trans (hk2.out k hk))
    clear q2 hBB hB4 h4 hk2 hk3 hk4 hr hr2 hkz
    replace hfin := hide hfin
    refine wpF_step 7 rfl (by as_aux_lemma => kernel_rfl) (fun K hK => ?_)
    go_simp
    refine hK _ _ (IsRel.refl _) ?_
    clear hK K
    refine wpF_step 8 rfl (by as_aux_lemma => kernel_rfl) (fun K hK => ?_)
    go_simp
    refine hK _ _ (IsRel.refl _) ?_
    clear hK K
    refine wpF_done (by as_aux_lemma => kernel_rfl) ?_ 0
    go_wp2_with fail
    go_ret
    exact ⟨rfl, hfin.out⟩
  by_cases k4 : ok = 4
  · subst k4
    obtain ⟨e1, hr2⟩ := hr.out.add (c := ⟨[], on, ow⟩) (o := ⟨4, ot, on, ow⟩) (by unfold Tells; rw [if_neg (show ¬(4 : Int) = 3 by decide)]) ⟨ht, hn⟩
    obtain ⟨N, hN⟩ : ∃ r, (addO TO ⟨[], on, ow⟩).2 = r := ⟨_, rfl⟩
    rw [hN] at e1
    replace hr2 := hide hr2
    go_upto_region 14 with fail
    refine wp_region_X (AtZ z) (by as_aux_lemma => kernel_rfl) ?_
    intro w2 hbd
    have h2 := h1.out.below hbd
    have hB2 := hB1.out.trans (hbd.mono (by have := hB1.out.size; omega))
    have hg2 := blk_below hbd hz1 hg1.out
    have hk2 : ∀ k, Z k ∨ k = z → w2.heap[k]? = w1.heap[k]? := by
      obtain ⟨mp, lo, hi, n, nv, a1, a2, a3, sv, wv, h⟩ := h1.out
      exact fun k hk => hbd.block k (h.fz k hk).1
    have q1 := sc_xweight on ow h2
    rw [hN] at q1
    have l0 := fun l : RelW (AtZ z) w2 => blk_cell (Eq.trans l.hk hg2) 0
    have l1 := fun l : RelW (AtZ z) w2 => blk_cell (Eq.trans l.hk hg2) 1
    have l2 := fun l : RelW (AtZ z) w2 => blk_cell (Eq.trans l.hk hg2) 2
    have l3 := fun l : RelW (AtZ z) w2 => blk_cell (Eq.trans l.hk hg2) 3
    clear h1 hB1 hbd hg1 h2 hg2 d0 d1 d2 d3
    replace q1 := hide q1
    replace hB2 := hide hB2
    replace hk2 := hide hk2
    refine wpX_seg (AtZ z) 0 5 (fuel := 6) (by as_aux_lemma => kernel_rfl) (fun d _ _ _ _ h => by cases d <;> exact h) (by as_aux_lemma => kernel_rfl) (by as_aux_lemma => kernel_rfl) ?_
    simp only [List.drop_zero, List.take_succ_cons, List.take_zero]
    iterate 5 (refine wpQX_step (fun K hK => ?_); go_simp; refine hK _ ?_; clear hK K)
    refine wpQF_nil ?_
    refine wpX_seg (AtZ z) 6 2 (fuel := 4) (by as_aux_lemma => kernel_rfl) (fun d _ _ _ _ h => by cases d <;> exact h) (by as_aux_lemma => kernel_rfl) (by as_aux_lemma => kernel_rfl) ?_
    simp only [List.drop_succ_cons, List.drop_zero, List.take_succ_cons, List.take_zero]
    iterate 2 (refine wpQX_step (fun K hK => ?_); go_simp; refine hK _ ?_; clear hK K)
    refine wpQF_nil ?_
    clear l0 l1 l2 l3
    refine wpF_step 5 rfl (by as_aux_lemma => kernel_rfl) (fun K hK => ?_)
    go_simp
    go_at_call 20
    refine q1.out.mono ?_
    rintro e w3 ⟨rfl, h3, hB3, hk3⟩
    refine hK _ _ (hk3 z (.inr rfl)) ?_
    clear hK K
    have q2 := sc_padd ⟨4, ot, on, ow⟩ h3
    rw [← e1] at q2
    dsimp only at q2
    have hBB := hB2.out.trans hB3
    clear q1 hB2 hB3 h3
    replace q2 := hide q2
    replace hBB := hide hBB
    replace hk3 := hide hk3
    refine wpF_step 8 rfl (by as_aux_lemma => kernel_rfl) (fun K hK => ?_)
    go_simp
    go_at_call 19
    refine q2.out.mono ?_
    rintro e w4 ⟨rfl, h4, hB4, hk4⟩
    refine hK _ _ (hk4 z (.inr rfl)) ?_
    clear hK K
    have hfin := StepTo.mk' (m' := m + 65) h4 hr2.out (hBB.out.trans hB4) (by omega) hkz.out (fun k hk => ((hk4 k hk).trans (hk3.out k hk)).trans (hk2.out k hk))
    clear q2 hBB hB4 h4 hk2 hk3 hk4 hr hr2 hkz
    replace hfin := hide hfin
    refine wpF_step 9 rfl (by as_aux_lemma => kernel_rfl) (fun K hK => ?_)
    go_simp
    refine hK _ _ (IsRel.refl _) ?_
    clear hK K
    refine wpF_step 10 rfl (by as_aux_lemma => kernel_rfl) (fun K hK => ?_)
    go_simp
    refine hK _ _ (IsRel.refl _) ?_
    clear hK K
    refine wpF_done (by as_aux_lemma => kernel_rfl) ?_ 0
    go_wp2_with fail
    go_ret
    exact ⟨rfl, hfin.out⟩
  by_cases k5 : ok = 5
  · subst k5
    obtain ⟨e1, hr2⟩ := hr.out.commit
    have q1 := sc_commit h1.out hr.out.tx (by omega) (by omega)
    obtain ⟨N, hN⟩ : ∃ r, (comO S TO).2 = r := ⟨_, rfl⟩
    rw [hN] at q1 e1
    have hok := hr.out.ok
    have hwl : P.wait.length ≤ 64 ∧ ∀ c ∈ P.wait, c.text.length ≤ 65536 := by
      have := hr.out.tx
      rcases TO with _ | T
      · rw [this.2]; exact ⟨by decide, fun c hc => by cases hc⟩
      · exact ⟨this.2.2.2.2.1, fun c hc => (this.2.2.2.2.2 c hc).1⟩
    clear d1 d2 d3
    replace q1 := hide q1
    replace hr2 := hide hr2
    replace hok := hide hok
    replace hwl := hide hwl
    go_wp2_with fail
    refine (q1.out).mono ?_
    rintro e w2 ⟨rfl, h2, hB2, hk2⟩
    have q2 := sc_pcommit h2 hok.out (by have := hwl.out.1; omega) (by have := hwl.out.1; omega) hwl.out.2
    rw [← e1] at q2
    have hBB := hB1.out.trans hB2
    clear q1 h1 hB1 hB2 h2 d0
    replace q2 := hide q2
    replace hBB := hide hBB
    replace hk2 := hide hk2
    go_wp2_with fail
    refine (q2.out).mono ?_
    rintro e w3 ⟨rfl, h3, hB3, hk3⟩
    have hfin := StepTo.mk' (m' := m + 65) (h3.more (Nat.le_refl _)) hr2.out (hBB.out.trans hB3) (by omega) hkz.out (fun k hk => (hk3 k hk).trans (hk2.out k hk))
    clear q2 hBB hB3 h3 hk2 hk3 hr hr2 hkz hg1
    replace hfin := hide hfin
    go_wp2_with fail
    go_ret
    exact ⟨rfl, hfin.out⟩
  have q1 := sc_drop h1.out
  have hr2 := hr.out.drop
  clear d1 d2 d3
  replace q1 := hide q1
  replace hr2 := hide hr2
  go_wp2_with fail
  refine (q1.out).mono ?_
  rintro e w2 ⟨rfl, h2, hB2, hk2⟩
  have hBB := hB1.out.trans hB2
  obtain ⟨mp, lo, hi, n, nv, a1, a2, a3, sv, wv, hs⟩ := h2
  have c14 := blk_cell hs.pl.blk 14
  have f14 := blk_free hs.pl.blk 14
  unfold plA Conf18.cfC at c14
  obtain ⟨w3, hw3⟩ : ∃ w3, w2.setCell ⟨p, 14, none⟩ (.bool false) = w3 := ⟨_, rfl⟩
  obtain ⟨hg3, hk3⟩ := keptS_cell hs.pl.blk hw3
  have hr3 := hs.pl.own hk3
  have hpl : PlTo w2 w3 B p wv { P with op := false } := ⟨_, _, _, _, ⟨hg3, ⟨hr3.nodes, hr3.vips, hr3.views, hr3.sets, hr3.wait⟩, hs.pl.hb⟩, hk3⟩
  obtain ⟨b1, b2, b3, b4, h4, h5⟩ := hs.plain hpl
  have hpb := hs.pl.hb
  have hfin := StepTo.mk' (m' := m + 65) ⟨_, _, _, _, _, _, _, _, _, _, h4⟩ hr2.out (below_step hBB h5 (by have := hBB.size; omega) (fun i hi e => by omega)) (by omega) hkz.out (fun k hk => (h5.block k (hs.fz k hk).1 (fun e => by have := hs.fz k hk; omega)).trans (hk2 k hk))
  clear q1 hBB hB2 hk2 h1 hB1 hg1 hkz hr hr2 hs hg3 hk3 hr3 hpl h4 h5 d0
  replace hfin := hide hfin
  go_wp2_with fail
  go_ret
  exact ⟨rfl, hfin.out⟩
end Store20
end Go.Proofs.YtcpokkkdmenmgaaGreatDoor
/- store, the law: a script is read as a list of calls. No condition. -/
namespace Go.Proofs.YtcpokkkdmenmgaaGreatDoor
open Go.RowKit Go.ChangeShapes Go.WideShapes Go.ChangeAt Go.Deep
namespace Store20
theorem leafsWo : leafsOf Tryz.prog 5 40 0 = some [(3, 0), (9, 1), (9, 2), (3, 3)] := by kernel_rfl
theorem cellsWo : Tryz.prog.cellsOf 40 = 4 := by kernel_rfl
def Wo.fits (o : Wo) : Prop := o.text.length ≤ maxLen ∧ o.name.length ≤ maxLen
section
variable {H : Type} {enc : TypeId × Value → H} {w : World} {spare : Nat → Bool} {held : Bool}
theorem open_wos {m : Nat} {v : Value} {y : DataW H × List MemPlace} (h : DataW.trod enc Tryz.prog w 0 spare held m 22 [v] = some y) :
    ∃ A n c es, v = .slice A n c ∧ (IsT woC 4 w w.heap.size A n es ∧ ∀ x ∈ es, Wo.fits x) ∧ n ≤ c ∧ c ≤ maxLen :=
  open_structs Wo.fits Tryz.underlying22 cellsWo (by omega) (fun n cs y h hcl => by
    have hlf := trod_leafs cs 5 40 0 _ n y leafsWo (by rw [cellsWo, List.drop_zero, List.take_of_length_le (by omega)]; exact h)
    match cs, hcl with
    | [a, b, c, d], _ =>
      obtain ⟨_, _, t0⟩ := hlf 3 0 (by simp)
      obtain ⟨_, _, t1⟩ := hlf 9 1 (by simp)
      obtain ⟨_, _, t2⟩ := hlf 9 2 (by simp)
      obtain ⟨_, _, t3⟩ := hlf 3 3 (by simp)
      simp only [List.drop_succ_cons, List.drop_zero, List.take_succ_cons, List.take_zero] at t0 t1 t2 t3
      obtain ⟨k, rfl, _⟩ := open_i64 t0
      obtain ⟨s1, e1, _, h1⟩ := DataW.trod_string Tryz.underlying9 t1
      cases e1
      obtain ⟨s2, e2, _, h2⟩ := DataW.trod_string Tryz.underlying9 t2
      cases e2
      obtain ⟨x, rfl, _⟩ := open_i64 t3
      refine ⟨⟨k, s1.data.toList, s2.data.toList, x⟩, ?_, ?_⟩
      · show _ = [_, Value.string (str s1.data.toList), Value.string (str s2.data.toList), _]
        rw [show str s1.data.toList = s1 by cases s1; rfl, show str s2.data.toList = s2 by cases s2; rfl]
      · exact ⟨by simp only; rw [Array.length_toList]; exact h1, by simp only; rw [Array.length_toList]; exact h2⟩) h
end
end Store20
end Go.Proofs.YtcpokkkdmenmgaaGreatDoor
/- store, the law: weightOf: the weight that was set of a host. Condition: fewer than 2^40 weights. -/
namespace Go.Proofs.YtcpokkkdmenmgaaGreatDoor
open Go.RowKit Go.ChangeShapes Go.WideShapes Go.ChangeAt Go.Deep
namespace Store20
open Conf18 (Nd Vp Vw Cfg zA MapI lt_of_blk confF cfC CfgR CfgV zeroC eqw)
open Addr05 (Adr MaxAt)
open Val19
theorem lastW_take (l : List (List UInt8 × Nat)) (i : Nat) (q : List UInt8 × Nat) (h : l[i]? = some q) (y : List UInt8) : lastW (l.take (i + 1)) y = if y = q.1 then some q.2 else lastW (l.take i) y := by
  rw [List.take_add_one, h]
  exact lastW_snoc _ q.1 y q.2
set_option maxRecDepth 20000 in
set_option maxHeartbeats 8000000 in
theorem wof_any {w : World} {B p : Nat} {a1 a2 a3 sv wv : Value} {P : Pl} (h : PlC w B p a1 a2 a3 sv wv P) (hn : P.sets.length < big) (y : List UInt8) :
    Calls Tryz.prog 11 #[.pointer (some ⟨p, 0, none⟩), .string (str y)] w fun e w' => e = .returned (.tuple #[.int .i64 (((lastW P.sets y).getD 0 : Nat) : Int), .bool (lastW P.sets y).isSome]) ∧ w' = w := by
  obtain ⟨A, cap, hs, b1, b2, hI⟩ := own_isv h.rows.sets
  subst hs
  have k13 := (show w.cell? ⟨p, 13, none⟩ = some (.slice A P.sets.length cap) from blk_cell h.blk 13)
  obtain ⟨L, hL⟩ : ∃ L, P.sets.length = L := ⟨_, rfl⟩
  rw [hL] at k13 b1 hn
  have hLb : L < 1099511627776 := hn
  have hIT : IsT seC 2 w w.heap.size A L P.sets := ⟨hL, by rw [← hL]; exact hI⟩
  obtain ⟨X, hX⟩ : ∃ X, lastW P.sets y = X := ⟨_, rfl⟩
  rw [hX]
  have hXL : lastW (P.sets.take L) y = X := by rw [← hL, List.take_length]; exact hX
  have wi0 : IntKind.i64.wrap ((L : Int) - 1) = (L : Int) - 1 := by rw [IntKind.wrap_i64]; omega
  clear hI h hX
  replace hIT := hide hIT
  replace hL := hide hL
  replace hXL := hide hXL
  go_enter Tryz.func11, Tryz.ntmps11
  go_wp2_with fail
  go_loopw [6] (fun iv wr => ∃ i : Nat, i ≤ L ∧ iv = .int .i64 ((i : Int) - 1) ∧ lastW (P.sets.take i) y = X ∧ w = wr) (fun iv _ => (intOf iv + 1).toNat)
  case atStart => exact ⟨L, Nat.le_refl _, rfl, hXL.out, rfl⟩
  case round =>
    obtain ⟨i, hi, rfl, hE, rfl⟩ := hrel
    rcases i with _ | i
    · have hX0 : X = none := by rw [← hE]; rfl
      subst hX0
      go_wp2_with fail
      go_ret2
      exact ⟨rfl, rfl⟩
    · have e1 : ((i + 1 : Nat) : Int) - 1 = (i : Int) := by omega
      rw [e1]
      obtain ⟨b, off, q, rfl, hbk, hni, hcell⟩ := IsT.at (f := seC) (size := 2) (fun _ => rfl) (by decide) hIT.out (i := i) (by omega)
      have wi1 : IntKind.i64.wrap ((i : Int) - 1) = (i : Int) - 1 := by rw [IntKind.wrap_i64]; omega
      have hE2 := hE
      rw [lastW_take P.sets i q hni y] at hE2
      obtain ⟨qs, qv⟩ := q
      dsimp only at hE2
      have te := eqw qs y
      have hst : (str y).toList = y := by simp [str, ByteArray.toList_eq]
      rw [← hst] at te
      have te2 : ((str qs).toList == (str y).toList) = decide (qs = y) := by
        rw [te]
        congr 1
        rw [hst]
      clear te hst hE
      have y0 : w.cell? ⟨b, off + i * 2, none⟩ = some (.string (str qs)) := hcell 0 _ rfl
      have y1 : w.cell? ⟨b, off + i * 2 + 1, none⟩ = some (.int .i64 (qv : Int)) := hcell 1 _ rfl
      have hg0 : (0 : Int) ≤ (i : Int) := by omega
      have hiL : (i : Int) < (L : Int) := by omega
      clear hcell hni
      by_cases hq : qs = y
      · rw [if_pos hq.symm] at hE2
        subst hE2
        rw [decide_eq_true hq] at te2
        clear hq
        go_wp2_with fail
        go_ret2
        exact ⟨rfl, rfl⟩
      · rw [if_neg (fun e => hq e.symm)] at hE2
        rw [decide_eq_false hq] at te2
        clear hq
        replace hE2 := hide hE2
        go_wp2_with fail
        exact ⟨⟨i, by omega, rfl, hE2.out, by first | rfl | trivial⟩, by simp only [intOf]; omega⟩
end Store20
end Go.Proofs.YtcpokkkdmenmgaaGreatDoor
/- The walk of StoreRefuses. No condition. -/
namespace Go.Proofs.YtcpokkkdmenmgaaGreatDoor
open Go.RowKit Go.ChangeShapes Go.WideShapes Go.ChangeAt Go.Deep
namespace Store20
open Conf18 (Nd Vp Vw Cfg zA MapI lt_of_blk confF cfC CfgR CfgV zeroC)
open Addr05 (Adr MaxAt)
open Val19
def P0 : Pl := ⟨zeroC, false, 0, [], false, false, 0, []⟩
theorem rel0 : Rel 0 S0 P0 none := ⟨⟨rfl, rfl, by funext y; rfl⟩, ⟨(fun h => by cases h), Nat.zero_le _⟩, Nat.le_refl _, Nat.le_refl _, rfl, rfl⟩
theorem step_none {Z : Nat → Prop} {w w' : World} {B s p m : Nat} (h : StepTo Z w w' B s p m (.pointer none)) : ∃ S P, ScE w' Z B s p m (.pointer none) S P none ∧ Rel m S P none ∧ Below B w w' := by
  obtain ⟨S, P, TO, h1, h2, h3, -⟩ := h
  rcases TO with _ | T
  · exact ⟨S, P, h1, h2, h3⟩
  · obtain ⟨mp, lo, hi, n, nv, a1, a2, a3, sv, wv, h⟩ := h1
    obtain ⟨t, lv, e, -⟩ := h.tx
    cases e
theorem chS_some {S : St} {c : Ch} (h : (chS S c).2 = 0) : (chS S c).1.c ≠ none := by
  unfold chS at h ⊢
  split
  · rename_i hn
    rw [if_pos hn] at h
    unfold loadS at h ⊢
    rcases e : confF c.text with p | c2
    · rw [e] at h
      exact absurd h (confF_err e)
    · rw [e] at h
      dsimp only at h ⊢
      split
      · rename_i hv
        rw [if_pos hv] at h
        exact absurd h (by simp only; omega)
      · intro e2; cases e2
  · rename_i hn
    rw [if_neg hn] at h
    unfold weightS at h ⊢
    rcases e : S.c with _ | c2
    · rw [e] at h; cases h
    · rw [e] at h
      dsimp only at h ⊢
      split
      · rename_i hx
        rw [if_pos hx] at h; cases h
      · rename_i hx
        rw [if_neg hx] at h
        rcases e2 : hostOf c2.nodes c.name with _ | k
        · rw [e2] at h; cases h
        · intro e3; cases e3
theorem runS_some : ∀ (l : List Ch) (S S' : St), runS S l = .ok S' → l ≠ [] → S'.c ≠ none
  | [], _, _, _, h => absurd rfl h
  | [c], S, S', h, _ => by
    rw [runS] at h
    split at h
    · rename_i h0
      cases h
      exact chS_some h0
    · cases h
  | c :: d :: l, S, S', h, _ => by
    rw [runS] at h
    split at h
    · exact runS_some (d :: l) _ _ h (by simp)
    · cases h
theorem runS_ne : ∀ (l : List Ch) (S : St) (e : Int), runS S l = .error e → e ≠ 0
  | [], _, _, h => by cases h
  | c :: l, S, e, h => by
    rw [runS] at h
    split at h
    · exact runS_ne l _ e h
    · rename_i h0
      cases h
      exact h0
theorem com_cases (S : St) (L : List Ch) : ((commitS S ⟨S.gen, L, false⟩).1 = S ∧ ((commitS S ⟨S.gen, L, false⟩).2 ≠ 0 ∨ L.length = 0)) ∨ ((commitS S ⟨S.gen, L, false⟩).2 = 0 ∧ L.length ≠ 0 ∧ (commitS S ⟨S.gen, L, false⟩).1.c ≠ none ∧ (commitS S ⟨S.gen, L, false⟩).1.gen = S.gen + 1) := by
  unfold commitS
  rw [if_neg (show ¬(⟨S.gen, L, false⟩ : Tx).over = true by simp), if_neg (show ¬(⟨S.gen, L, false⟩ : Tx).gen ≠ S.gen by simp)]
  dsimp only
  by_cases hL : L = []
  · subst hL
    exact .inl ⟨rfl, .inr rfl⟩
  · rcases e : runS S L with e1 | S'
    · exact .inl ⟨rfl, .inl (runS_ne L S e1 e)⟩
    · right
      dsimp only
      rw [if_neg hL]
      exact ⟨rfl, fun h => hL (List.length_eq_zero_iff.1 h), runS_some L S S' e hL, rfl⟩
end Store20
end Go.Proofs.YtcpokkkdmenmgaaGreatDoor
