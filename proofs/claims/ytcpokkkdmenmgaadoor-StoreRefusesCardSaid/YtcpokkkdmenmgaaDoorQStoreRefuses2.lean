/- store, the law: the document's store: add. No condition. -/
import Derived.Test.YtcpokkkdmenmgaaDoorQStoreRefuses1
import Derived.Test.YtcpokkkdmenmgaaDoorQStoreNobody22
namespace Go.Proofs.YtcpokkkdmenmgaaDoor
open Go.RowKit Go.ChangeShapes Go.WideShapes Go.ChangeAt Go.Deep
namespace Store20
open Conf18 (Nd Vp Vw Cfg zA MapI lt_of_blk cfC row_not_x row_set)
open Addr05 (Adr MaxAt)
open Val19
theorem info_wo : (Tryd.prog.info? 65).map (fun i => (i.zero, i.size, i.bytes)) = some (some (.agg #[.int .i64 0, .string ⟨#[]⟩, .string ⟨#[]⟩, .int .i64 0]), 4, 48) := by kernel_rfl
theorem woC_one (c : Wo) : ∀ u ∈ woC c, u.oneCell' = true := by
  intro u hu
  simp only [woC, List.mem_cons, List.not_mem_nil, or_false] at hu
  rcases hu with rfl | rfl | rfl | rfl <;> rfl
def addP (P : Pl) (o : Wo) : Pl × Nat := if P.made = false ∨ P.op = false then (P, 9) else if 64 ≤ P.wait.length then (P, 6) else ({ P with wait := P.wait ++ [o] }, 0)
def PaTo (w w' : World) (base p : Nat) (wv : Value) (P' : Pl) : Prop := ∃ a1 a2 a3 sv wv', PlC w' base p a1 a2 a3 sv wv' P' ∧ (wv'.ownBlock = wv.ownBlock ∨ ∃ k, wv'.ownBlock = some k ∧ w.heap.size ≤ k) ∧ KeptS w.heap.size (fun k => k = p ∨ wv.ownBlock = some k) w w'
theorem PlC.sameA {w w' : World} {base p : Nat} {a1 a2 a3 sv wv : Value} {P : Pl} (h : PlC w base p a1 a2 a3 sv wv P) (hb : Below w.heap.size w w') : PaTo w w' base p wv P := ⟨a1, a2, a3, sv, wv, h.below hb, .inl rfl, keptS_of_below hb (Nat.le_refl _)⟩
set_option maxRecDepth 20000 in
set_option maxHeartbeats 8000000 in
theorem padd_any {base p : Nat} {a1 a2 a3 sv wv : Value} (P : Pl) (o : Wo) (w : World) (h : PlC w base p a1 a2 a3 sv wv P) :
    Calls Tryd.prog 43 #[.pointer (some ⟨p, 0, none⟩), .agg #[.int .i64 o.kind, .string (str o.text), .string (str o.name), .int .i64 o.w]] w fun e w' => e = .returned (.int .i64 ((addP P o).2 : Int)) ∧ PaTo w w' base p wv (addP P o).1 := by
  obtain ⟨X, hX⟩ : ∃ X, addP P o = X := ⟨_, rfl⟩
  rw [hX]
  unfold addP at hX
  obtain ⟨w1, hw1⟩ : ∃ w1, w.alloc (.cells #[.int .i64 o.kind, .string (str o.text), .string (str o.name), .int .i64 o.w] 65) = w1 := ⟨_, rfl⟩
  have hb1 : Below w.heap.size w w1 := hw1 ▸ (Below.refl _ _).alloc (Nat.le_refl _) _
  have hg1 : w1.heap[w.heap.size]? = some (.cells #[.int .i64 o.kind, .string (str o.text), .string (str o.name), .int .i64 o.w] 65 (0, 0)) := hw1 ▸ blk_new _ _ _
  have h1 := h.below hb1
  obtain ⟨A, cap, hlv, hc1, hc2, -⟩ := own_isv h.rows.wait
  subst hlv
  have k14 := blk_cell h1.blk 14
  have k15 := blk_cell h1.blk 15
  have k17 := blk_cell h1.blk 17
  unfold plA cfC at k14 k15 k17
  by_cases hm : P.made = true
  case neg =>
    have hm2 : P.made = false := by simpa using hm
    rw [if_pos (.inl hm2)] at hX
    subst hX
    rw [hm2] at k15
    clear h1 hg1
    replace h := hide h
    replace hb1 := hide hb1
    go_enter Tryd.func43, Tryd.ntmps43
    go_upto_region 1 with fail
    clear hw1
    go_wp2_with fail
    go_ret
    exact ⟨rfl, h.out.sameA hb1.out⟩
  by_cases ho : P.op = true
  case neg =>
    have ho2 : P.op = false := by simpa using ho
    rw [if_pos (.inr ho2)] at hX
    subst hX
    rw [hm] at k15
    rw [ho2] at k14
    clear h1 hg1
    replace h := hide h
    replace hb1 := hide hb1
    go_enter Tryd.func43, Tryd.ntmps43
    go_upto_region 1 with fail
    clear hw1
    go_wp2_with fail
    go_ret
    exact ⟨rfl, h.out.sameA hb1.out⟩
  rw [if_neg (by rw [hm, ho]; decide)] at hX
  rw [hm] at k15
  rw [ho] at k14
  obtain ⟨L, hL⟩ : ∃ L, P.wait.length = L := ⟨_, rfl⟩
  rw [hL] at k17 hX hc1
  by_cases hf : 64 ≤ L
  · rw [if_pos hf] at hX
    subst hX
    clear h1 hg1
    replace h := hide h
    replace hb1 := hide hb1
    replace hL := hide hL
    go_enter Tryd.func43, Tryd.ntmps43
    go_upto_region 1 with fail
    clear hw1
    go_wp2_with fail
    go_ret
    exact ⟨rfl, h.out.sameA hb1.out⟩
  rw [if_neg hf] at hX
  subst hX
  have hz := h.lt
  have hz1 := lt_of_blk hg1
  have hne : ∀ k, (Value.slice A L cap).ownBlock = some k → k < w.heap.size ∧ k ≠ p := by
    intro k hk
    have hk2 : (Value.slice A P.wait.length cap).ownBlock = some k := by rw [hL]; exact hk
    refine ⟨(World.ownsRow.lt h.rows.wait _ hk2).2, ?_⟩
    rintro rfl
    exact row_ty h.rows.wait h.blk (by decide) hk2
  replace h := hide h
  replace h1 := hide h1
  replace hg1 := hide hg1
  replace hb1 := hide hb1
  replace hL := hide hL
  replace hne := hide hne
  go_enter Tryd.func43, Tryd.ntmps43
  go_upto_region 1 with fail
  clear hw1
  go_upto_region 5 with fail
  clear k14 k15 k17
  refine wp_region_Y [10] (KeptS w1.heap.size (fun k => (Value.slice A L cap).ownBlock = some k)) (by as_aux_lemma => kernel_rfl) ?_
  intro w2 hbd
  have h2 := h1.out.below hbd
  have hg2 := blk_below hbd hz1 hg1.out
  have hB2 := hb1.out.trans (hbd.mono hb1.out.size)
  have ze := hbd.size
  have lx := fun l : RelW (KeptS w1.heap.size (fun k => (Value.slice A L cap).ownBlock = some k)) w2 => (show l.w.cell? ⟨p, 17, none⟩ = some (.slice A L cap) from (blk_cell ((l.hk.block p (by omega) (fun e => (hne.out _ e).2 rfl)).trans h2.blk) 17).trans (by rw [hL.out]; rfl))
  have lz := fun l : RelW (KeptS w1.heap.size (fun k => (Value.slice A L cap).ownBlock = some k)) w2 => blk_cell ((l.hk.block w.heap.size hz1 (fun e => by have := (hne.out _ e).1; omega)).trans hg2)
  clear h1 hg1 hb1 hbd
  replace h2 := hide h2
  replace hB2 := hide hB2
  replace hg2 := hide hg2
  refine wpY_seg [10] (KeptS w1.heap.size (fun k => (Value.slice A L cap).ownBlock = some k)) 0 6 (fuel := 5) (by as_aux_lemma => kernel_rfl) (fun d _ _ _ _ h => by cases d <;> exact h) (by as_aux_lemma => kernel_rfl) (by as_aux_lemma => kernel_rfl) (by as_aux_lemma => kernel_rfl) ?_
  simp only [List.drop_zero, List.take_succ_cons, List.take_zero]
  iterate 6 (refine wpQX_step (fun K hK => ?_); go_simp; refine hK _ ?_; clear hK K)
  refine wpQF_nil ?_
  clear lx lz
  refine wpW_step 6 rfl (by as_aux_lemma => kernel_rfl) (fun K hK => ?_)
  go_simp
  refine hK _ _ (relY_of (keptS_of_below ((Below.refl _ _).alloc (Nat.le_refl _) _) ze)) ?_
  clear hK K
  obtain ⟨wt, hwt⟩ : ∃ wt, w2.alloc (.cells (woC o).toArray 65) = wt := ⟨_, rfl⟩
  have hbt : Below w2.heap.size w2 wt := hwt ▸ (Below.refl _ _).alloc (Nat.le_refl _) _
  have hnt : wt.heap[w2.heap.size]? = some (.cells (woC o).toArray 65 (0, 0)) := hwt ▸ blk_new _ _ _
  change wpW _ _ _ _ _ _ _ _ (w2.alloc (.cells (woC o).toArray 65))
  rw [hwt]
  have ht := h2.out.below hbt
  have hBt := hB2.out.trans (hbt.mono hB2.out.size)
  have zt := hbt.size
  have hbz : base ≤ wt.heap.size := by have := ht.hb; have := ht.lt; omega
  clear hwt hbt h2 hB2 hg2
  refine wpW_step 7 rfl (by as_aux_lemma => kernel_rfl) (fun K hK => ?_)
  rw [if_pos (by unfold Region.wanted; rfl)]
  refine wp_app_c (T := 65) Tryd.underlying59 info_wo rfl (by decide) (by decide) (.tmp 27) (.tmp 29) rfl base (.slice A L cap) L (P.wait.map woC).flatten (woC o) w2.heap.size rfl rfl (by have := ht.rows.wait; rw [hL.out] at this; exact this) hnt rfl (woC_one _) hbz (by omega) fun v11 w11 q1 q2 => hK _ _ (relY_of ⟨q2.grown.os, q2.grown.tape, q2.grown.output, q2.grown.size, fun k hk hne => q2.grown.block k (by omega) (fun e => hne e.symm)⟩) ?_
  clear hK K hnt
  obtain ⟨A11, c11, hv11, -, -, -⟩ := own_isv q1
  subst hv11
  have hz11 := q2.grown.size
  have hb11 := (q2.grown.block p (by omega) (fun e => (hne.out _ e.symm).2 rfl)).trans ht.blk
  have hcc := (blk_cell hb11 17)
  have hff := blk_free hb11 17
  unfold plA cfC at hcc
  have hkt : KeptS wt.heap.size (fun k => (Value.slice A L cap).ownBlock = some k) wt w11 := ⟨q2.grown.os, q2.grown.tape, q2.grown.output, q2.grown.size, fun k hk hne => q2.grown.block k hk (fun e => hne e.symm)⟩
  have hno : ∀ {e : TypeId} {size n : Nat} {v : Value} {xs : List Value}, wt.ownsRow base e size v n xs → 65 ≠ e → ∀ k, (Value.slice A L cap).ownBlock = some k → v.ownBlock ≠ some k := by
    intro e size n v xs hr hne2 k hk
    have hw := ht.rows.wait
    rw [hL.out] at hw
    rcases rows_apart hr hw (Ne.symm hne2) with h9 | h9
    · rw [h9]; intro e; cases e
    · intro e9; exact h9 (by rw [e9, hk])
  have rn := row_keptP ht.rows.nodes hkt (hno ht.rows.nodes (by decide))
  have rv := row_keptP ht.rows.vips hkt (hno ht.rows.vips (by decide))
  have rw2 := row_keptP ht.rows.views hkt (hno ht.rows.views (by decide))
  have rs := row_keptP ht.rows.sets hkt (hno ht.rows.sets (by decide))
  obtain ⟨w12, hw12⟩ : ∃ w12, w11.setCell ⟨p, 17, none⟩ (.slice A11 (L + 1) c11) = w12 := ⟨_, rfl⟩
  obtain ⟨hg12, hk12⟩ := keptS_cell hb11 hw12
  have hty : ∀ {e : TypeId} {size n : Nat} {v : Value} {xs : List Value}, w11.ownsRow base e size v n xs → 63 ≠ e → w12.ownsRow base e size v n xs := fun hr hne2 => row_keptP hr hk12 (fun k e => by subst e; exact row_ty hr hb11 hne2)
  have hfin : PaTo w w12 base p (.slice A L cap) { P with wait := P.wait ++ [o] } := by
    refine ⟨_, _, _, _, .slice A11 (L + 1) c11, ⟨hg12, ⟨hty rn (by decide), hty rv (by decide), hty rw2 (by decide), hty rs (by decide), ?_⟩, h.out.hb⟩, ?_, ?_⟩
    · show w12.ownsRow base _ 4 _ (P.wait ++ [o]).length ((P.wait ++ [o]).map woC).flatten
      rw [List.length_append, List.length_singleton, hL.out, List.map_append, List.flatten_append]
      have := hty q1 (by decide)
      simpa using this
    · rcases q2.moved with e | ⟨k, e, hk⟩
      · exact .inl e
      · exact .inr ⟨k, e, by have := hBt.size; omega⟩
    · have hzt := hBt.size
      exact keptS_trans _ _ _ _ _ (keptS_of_below hBt (Nat.le_refl _)) (keptS_trans _ _ _ _ _ (keptS_less hkt hzt (fun k _ e => .inr e)) (keptS_less hk12 (by omega) (fun k _ e => .inl e)))
  clear q1 q2 ht hBt hb11 hg12 hk12 h hkt hno rn rv rw2 rs hty
  replace hfin := hide hfin
  refine wpW_step 8 rfl (by as_aux_lemma => kernel_rfl) (fun K hK => ?_)
  go_simp
  refine hK _ _ (relY_of (IsRel.refl _)) ?_
  clear hK K
  refine wpW_step 9 rfl (by as_aux_lemma => kernel_rfl) (fun K hK => ?_)
  go_simp
  refine hK _ _ (relY_of (IsRel.refl _)) ?_
  clear hK K
  refine wpW_step 10 rfl (by as_aux_lemma => kernel_rfl) (fun K hK => ?_)
  go_simp
  refine hK _ _ (relY_wr (by as_aux_lemma => kernel_rfl)) ?_
  clear hK K hcc hff hw12
  refine wpW_done (by as_aux_lemma => kernel_rfl) ?_ _
  go_wp2_with fail
  go_ret
  exact ⟨rfl, by rw [hL.out]; exact hfin.out⟩
end Store20
end Go.Proofs.YtcpokkkdmenmgaaDoor
/- store, the law, plain: changes of the document's store, one by one; that it has what the store has. No condition. -/
namespace Go.Proofs.YtcpokkkdmenmgaaDoor
open Go.RowKit Go.ChangeShapes Go.WideShapes Go.ChangeAt Go.Deep
namespace Store20
open Conf18 (Nd Vp Vw Cfg zA confF confF_good)
open Tree16 (treeF badF)
open Val19
theorem treeF_len {l : List Nd} (h : treeF l = none) : l.length ≤ 1024 := by
  refine Nat.le_of_not_lt fun hlt => ?_
  have h1 := (treeF_iff l).1 h 1024 _ (List.getElem?_eq_getElem hlt)
  have h2 := (bad_right h1).2
  exact h2 (.inl (by rw [List.length_take]; omega))
structure Pl.ok (P : Pl) : Prop where
  v : P.has = true → validF P.c = 0 ∧ P.c.good big
  len : P.c.nodes.length ≤ 1024
theorem Pl.ok.tree {P : Pl} (h : P.ok) (hh : P.has = true) : treeF P.c.nodes = none := (validF_parts (h.v hh).1).2.1
theorem loadP_ok {P : Pl} (h : P.ok) {t : List UInt8} (ht : t.length ≤ 65536) : (loadP P t).1.ok := by
  unfold loadP
  rcases e : confF t with p | c
  · exact h
  · dsimp only
    split
    · exact h
    · rename_i hv
      have hv0 := Decidable.byContradiction hv
      have hg := confF_good e
      exact ⟨fun _ => ⟨hv0, ⟨fun n hn => ⟨(hg.nodes n hn).1, Nat.le_trans (hg.nodes n hn).2 (Nat.le_trans ht (by decide))⟩, hg.vips, hg.views, hg.s0, hg.s1⟩⟩, treeF_len (validF_parts hv0).2.1⟩
theorem weightP_ok {P : Pl} (h : P.ok) (s : List UInt8) (x : Int) : (weightP P s x).1.ok := by
  unfold weightP
  split
  · exact h
  · rename_i hh
    have hh1 : P.has = true := by simpa using hh
    split
    · exact h
    · rename_i hx
      rcases e2 : hostOf P.c.nodes s with _ | k
      · exact h
      · dsimp only
        obtain ⟨n, h1, h2, h3, h4⟩ := hostOf_some e2
        obtain ⟨g1, g2⟩ := h.v hh1
        refine ⟨fun _ => ⟨valid_wt g1 h1 h3 (by omega) (by omega), good_wt g2 h1⟩, ?_⟩
        show (wtN P.c.nodes k x).length ≤ 1024
        rw [wtN_len]
        exact h.len
theorem loadP_n (P : Pl) (t : List UInt8) : (loadP P t).1.gen ≤ P.gen + 1 ∧ (loadP P t).1.sets.length ≤ P.sets.length + 1 := by
  unfold loadP
  split
  · exact ⟨Nat.le_succ _, Nat.le_succ _⟩
  · split
    · exact ⟨Nat.le_succ _, Nat.le_succ _⟩
    · exact ⟨Nat.le_refl _, Nat.zero_le _⟩
theorem weightP_n (P : Pl) (s : List UInt8) (x : Int) : (weightP P s x).1.gen ≤ P.gen + 1 ∧ (weightP P s x).1.sets.length ≤ P.sets.length + 1 := by
  unfold weightP
  split
  · exact ⟨Nat.le_succ _, Nat.le_succ _⟩
  · split
    · exact ⟨Nat.le_succ _, Nat.le_succ _⟩
    · split
      · exact ⟨Nat.le_succ _, Nat.le_succ _⟩
      · exact ⟨Nat.le_refl _, by simp⟩
def chP (P : Pl) (o : Wo) : Pl × Int := if o.kind = 3 then ((loadP P o.text).1, (loadP P o.text).2.2) else if o.name = [] then ((loadP P []).1, (loadP P []).2.2) else ((weightP P o.name o.w).1, ((weightP P o.name o.w).2 : Int))
def runP (P : Pl) : List Wo → Except Int Pl
  | [] => .ok P
  | c :: l => if (chP P c).2 = 0 then runP (chP P c).1 l else .error (chP P c).2
theorem runP_app (S : Pl) : ∀ (l : List Wo) (c : Wo), runP S (l ++ [c]) = match runP S l with | .error e => .error e | .ok S1 => if (chP S1 c).2 = 0 then .ok (chP S1 c).1 else .error (chP S1 c).2 := by
  intro l
  induction l generalizing S with
  | nil => intro c; rfl
  | cons x l ih =>
    intro c
    rw [List.cons_append, runP, runP]
    split
    · exact ih _ c
    · rfl
theorem runP_next {S S1 : Pl} {l : List Wo} {i : Nat} {c : Wo} (h : runP S (l.take i) = .ok S1) (hc : l[i]? = some c) (h0 : (chP S1 c).2 = 0) : runP S (l.take (i + 1)) = .ok (chP S1 c).1 := by
  rw [List.take_add_one, hc, Option.toList, runP_app, h]
  exact if_pos h0
theorem runP_err {S S1 : Pl} {l : List Wo} {i : Nat} {c : Wo} (h : runP S (l.take i) = .ok S1) (hc : l[i]? = some c) (h0 : (chP S1 c).2 ≠ 0) : runP S l = .error (chP S1 c).2 := by
  have h1 : runP S (l.take (i + 1)) = .error (chP S1 c).2 := by
    rw [List.take_add_one, hc, Option.toList, runP_app, h]
    exact if_neg h0
  have key : ∀ (a b : List Wo) (S : Pl) (e : Int), runP S a = .error e → runP S (a ++ b) = .error e := by
    intro a b
    induction a with
    | nil => intro S e h; cases h
    | cons x a ih =>
      intro S e h
      rw [List.cons_append, runP]
      rw [runP] at h
      split
      · rename_i h0
        rw [if_pos h0] at h
        exact ih _ _ h
      · rename_i h0
        rw [if_neg h0] at h
        exact h
  have := key _ (l.drop (i + 1)) _ _ h1
  rwa [List.take_append_drop] at this
theorem chP_ok {P : Pl} (h : P.ok) {o : Wo} (ho : o.text.length ≤ 65536) : (chP P o).1.ok := by
  unfold chP
  split
  · exact loadP_ok h ho
  · split
    · exact loadP_ok h (by decide)
    · exact weightP_ok h _ _
theorem chP_n (P : Pl) (o : Wo) : (chP P o).1.gen ≤ P.gen + 1 ∧ (chP P o).1.sets.length ≤ P.sets.length + 1 := by
  unfold chP
  split
  · exact loadP_n _ _
  · split
    · exact loadP_n _ _
    · exact weightP_n _ _ _
def startX (P : Pl) : Pl := { P with op := false, made := false, fr := 0, wait := [] }
def commitP (P : Pl) : Pl × Int := if P.made = false ∨ P.op = false then (P, 9) else if P.fr ≠ P.gen then ({ P with op := false }, 19) else match runP (startX P) P.wait with
  | .error e => ({ P with op := false }, e)
  | .ok X => ({ P with op := false, c := X.c, has := X.has, sets := X.sets, gen := if P.wait = [] then P.gen else P.gen + 1 }, 0)
/-! ### The document's store has what the store has. -/
/-- The weight that was set of a name: the last one. -/
def lastW (l : List (List UInt8 × Nat)) (y : List UInt8) : Option Nat := match l with
  | [] => none
  | (s, x) :: r => match lastW r y with
    | some v => some v
    | none => if s = y then some x else none
theorem lastW_snoc (l : List (List UInt8 × Nat)) (s y : List UInt8) (x : Nat) : lastW (l ++ [(s, x)]) y = if y = s then some x else lastW l y := by
  induction l with
  | nil =>
    show (match lastW [] y with | some v => some v | none => if s = y then some x else none) = _
    by_cases h : y = s
    · subst h; simp [lastW]
    · rw [if_neg h]
      simp only [lastW]
      exact if_neg (fun e => h e.symm)
  | cons p l ih =>
    obtain ⟨s', x'⟩ := p
    rw [List.cons_append, lastW, ih]
    by_cases h : y = s
    · rw [if_pos h, if_pos h]
    · rw [if_neg h, if_neg h, lastW]
structure Alike (S : St) (P : Pl) : Prop where
  c : S.c = if P.has = true then some P.c else none
  gen : S.gen = P.gen
  sets : S.sets = lastW P.sets
theorem Alike.load {S : St} {P : Pl} (h : Alike S P) (t : List UInt8) : (loadS S t).2 = (loadP P t).2 ∧ Alike (loadS S t).1 (loadP P t).1 := by
  unfold loadS loadP
  rcases confF t with p | c
  · exact ⟨rfl, h⟩
  · dsimp only
    split
    · exact ⟨rfl, h⟩
    · exact ⟨rfl, ⟨rfl, by show S.gen + 1 = P.gen + 1; rw [h.gen], by funext y; rfl⟩⟩
theorem Alike.weight {S : St} {P : Pl} (h : Alike S P) (s : List UInt8) (x : Int) : (weightS S s x).2 = (weightP P s x).2 ∧ Alike (weightS S s x).1 (weightP P s x).1 := by
  unfold weightS weightP
  have hc := h.c
  by_cases hh : P.has = true
  · rw [if_pos hh] at hc
    rw [hc, if_neg (by rw [hh]; decide)]
    dsimp only
    split
    · exact ⟨rfl, h⟩
    · generalize hostOf P.c.nodes s = o
      rcases o with _ | k
      · exact ⟨rfl, h⟩
      · refine ⟨rfl, ⟨by show some (setW P.c k x) = if P.has = true then some (setW P.c k x) else none; rw [if_pos hh], by show S.gen + 1 = P.gen + 1; rw [h.gen], ?_⟩⟩
        funext y
        show (if y = s then some x.toNat else S.sets y) = lastW (P.sets ++ [(s, x.toNat)]) y
        rw [lastW_snoc, h.sets]
  · rw [if_neg hh] at hc
    rw [hc, if_pos (by simpa using hh)]
    exact ⟨rfl, h⟩
/-- A change of both. -/
def Tells (c : Ch) (o : Wo) : Prop := if o.kind = 3 then c = ⟨o.text, [], 0⟩ else c = ⟨[], o.name, o.w⟩
theorem Alike.ch {S : St} {P : Pl} (h : Alike S P) {c : Ch} {o : Wo} (ht : Tells c o) : (chS S c).2 = (chP P o).2 ∧ Alike (chS S c).1 (chP P o).1 := by
  unfold Tells at ht
  unfold chS chP
  by_cases hk : o.kind = 3
  · rw [if_pos hk] at ht
    subst ht
    rw [if_pos rfl, if_pos hk]
    have := h.load o.text
    exact ⟨by rw [this.1], this.2⟩
  · rw [if_neg hk] at ht
    subst ht
    rw [if_neg hk]
    dsimp only
    by_cases hn : o.name = []
    · rw [if_pos hn, if_pos hn]
      have := h.load []
      exact ⟨by rw [this.1], this.2⟩
    · rw [if_neg hn, if_neg hn]
      have := h.weight o.name o.w
      exact ⟨by rw [this.1], this.2⟩
/-- Rows of changes that tell the same. -/
def TellsL (cs : List Ch) (os : List Wo) : Prop := cs.length = os.length ∧ ∀ (i : Nat) (c : Ch) (o : Wo), cs[i]? = some c → os[i]? = some o → Tells c o
theorem TellsL.tail {c : Ch} {o : Wo} {cs : List Ch} {os : List Wo} (h : TellsL (c :: cs) (o :: os)) : Tells c o ∧ TellsL cs os := ⟨h.2 0 c o rfl rfl, by have := h.1; simp at this; exact this, fun i c' o' h1 h2 => h.2 (i + 1) c' o' (by simpa using h1) (by simpa using h2)⟩
theorem Alike.run : ∀ (cs : List Ch) (os : List Wo) (S : St) (P : Pl), Alike S P → TellsL cs os → (∃ e, runS S cs = .error e ∧ runP P os = .error e) ∨ (∃ S' P', runS S cs = .ok S' ∧ runP P os = .ok P' ∧ Alike S' P')
  | [], [], S, P, h, _ => .inr ⟨S, P, rfl, rfl, h⟩
  | c :: cs, [], S, P, h, ht => by have := ht.1; simp at this
  | [], o :: os, S, P, h, ht => by have := ht.1; simp at this
  | c :: cs, o :: os, S, P, h, ht => by
    obtain ⟨h1, h2⟩ := ht.tail
    obtain ⟨h3, h4⟩ := h.ch h1
    rw [runS, runP, h3]
    split
    · exact Alike.run cs os _ _ h4 h2
    · exact .inl ⟨_, rfl, rfl⟩
end Store20
end Go.Proofs.YtcpokkkdmenmgaaDoor
/- store, the law: the document's store: commit. Conditions: texts of at most 65536 bytes, fewer than 2^40 changes. -/
namespace Go.Proofs.YtcpokkkdmenmgaaDoor
open Go.RowKit Go.ChangeShapes Go.WideShapes Go.ChangeAt Go.Deep
section
variable {P : Program} {ops : Array Oper} {R : World → World → Prop} {w0 : World} {Q : Act → Prop} {a : Act} {op : Oper} {rest : List Oper}
theorem wpQX_load (hgd : op.guard = none) (ty : TypeId) (x : Operand) (ho : op.op = .load ty x) (b o : Nat) (hx : a.eval x = .pointer (some ⟨b, o, none⟩)) (cs : List Value) (d : TypeDesc)
    (hS : ∀ l : RelW R w0, l.w.rangeAt b o cs) (hu : P.underlying ty = some d) (hd : d.isRow = true) (hi : (P.info? ty).map (·.size) = some cs.length)
    (h : wpQF P ops R w0 Q rest (a.put op.dst (.agg cs.toArray))) : wpQF P ops R w0 Q (op :: rest) a := wpQX_step fun K hK => by
  rw [if_pos (by simp [Region.wanted, hgd])]
  refine ⟨.agg cs.toArray, fun l => ?_, hK _ h⟩
  unfold execOp
  simp only [ho, hx, Instr.loadAt, Instr.sureAddr, Sem.run_bind, Sem.run_pure, Result.andThen_ok, run_loadVar_mid l.w b o ty cs d (hS l) hu hd hi]
  exact ⟨rfl, rfl⟩
end
namespace Store20
open Conf18 (Nd Vp Vw Cfg zA MapI lt_of_blk cfC alloc_cf cf_one)
open Addr05 (Adr MaxAt)
open Val19
theorem alloc_wo (o : Oper) (h : o.op = .alloc 65) (ρ : Operand → Value) (w : World) : (execOp ρ o).run Tryd.prog w = .ok (.value (.pointer (some ⟨w.heap.size, 0, none⟩))) (w.alloc (.cells #[.int .i64 0, .string ⟨#[]⟩, .string ⟨#[]⟩, .int .i64 0] 65)) := by
  obtain ⟨d, op, t, ps, af, g⟩ := o
  dsimp only at h
  subst h
  kernel_rfl
theorem wo_one (k : Int) (a b : ByteArray) (c : Int) : (#[.int .i64 k, .string a, .string b, .int .i64 c] : Array Value).all (·.oneCell') = true := all_oneCell_toArray (by
  intro u hu
  simp only [List.mem_cons, List.not_mem_nil, or_false] at hu
  rcases hu with rfl | rfl | rfl | rfl <;> rfl)
theorem plA_range {w : World} {p : Nat} {P : Pl} {a1 a2 a3 sv wv : Value} {T : TypeId} (h : w.heap[p]? = some (.cells (plA P a1 a2 a3 sv wv) T (0, 0))) : w.rangeAt p 0 (cfC P.c a1 a2 a3).toList := range_of h
theorem PlC.max {w : World} {base p : Nat} {a1 a2 a3 sv wv : Value} {P : Pl} (h : PlC w base p a1 a2 a3 sv wv P) (hM : MaxAt w) : p ≠ 0 := by
  intro e
  obtain ⟨m, hm⟩ := hM
  have h2 := blk_cell h.blk 0
  rw [e, hm] at h2
  obtain ⟨B, k, e2, -, -, -⟩ := own_isv h.rows.nodes
  subst e2
  unfold plA cfC at h2
  cases h2
theorem PlC.keptX {w w' : World} {base p x : Nat} {a1 a2 a3 sv wv : Value} {P : Pl} {cs : Array Value} (h : PlC w base p a1 a2 a3 sv wv P) (hx : w.heap[x]? = some (.cells cs 63 (0, 0))) (hb : KeptS w.heap.size (fun k => k = x) w w') (hne : p ≠ x) : PlC w' base p a1 a2 a3 sv wv P :=
  ⟨(hb.block p h.lt hne).trans h.blk, h.rows.keptP hb (fun k hk => by subst hk; exact h.rows.no hx ⟨by decide, by decide, by decide, by decide, by decide⟩), h.hb⟩
def PcTo (w w' : World) (base p : Nat) (wv : Value) (P' : Pl) : Prop := PlTo w w' base p wv P'
set_option maxRecDepth 20000 in
set_option maxHeartbeats 16000000 in
theorem pcommit_any {base p : Nat} {a1 a2 a3 sv wv : Value} (P : Pl) (w : World) (h : PlC w base p a1 a2 a3 sv wv P) (hok : P.ok) (hgen : P.gen + P.wait.length < big) (hn : P.sets.length + P.wait.length < big) (hM : MaxAt w) (hcs : ∀ c ∈ P.wait, c.text.length ≤ 65536) :
    Calls Tryd.prog 44 #[.pointer (some ⟨p, 0, none⟩)] w fun e w' => e = .returned (.int .i64 (commitP P).2) ∧ PlTo w w' base p wv (commitP P).1 := by
  obtain ⟨X, hX⟩ : ∃ X, commitP P = X := ⟨_, rfl⟩
  rw [hX]
  unfold commitP at hX
  have k14 := blk_cell h.blk 14
  have k15 := blk_cell h.blk 15
  unfold plA cfC at k14 k15
  by_cases hm : P.made = true
  case neg =>
    have hm2 : P.made = false := by simpa using hm
    rw [if_pos (.inl hm2)] at hX
    subst hX
    rw [hm2] at k15
    clear hM hcs
    replace h := hide h
    replace hok := hide hok
    go_enter Tryd.func44, Tryd.ntmps44
    go_wp2_with fail
    go_ret
    exact ⟨rfl, h.out.same (Below.refl _ _)⟩
  by_cases ho : P.op = true
  case neg =>
    have ho2 : P.op = false := by simpa using ho
    rw [if_pos (.inr ho2)] at hX
    subst hX
    rw [hm] at k15
    rw [ho2] at k14
    clear hM hcs
    replace h := hide h
    replace hok := hide hok
    go_enter Tryd.func44, Tryd.ntmps44
    go_wp2_with fail
    go_ret
    exact ⟨rfl, h.out.same (Below.refl _ _)⟩
  rw [if_neg (by rw [hm, ho]; decide)] at hX
  rw [hm] at k15
  rw [ho] at k14
  obtain ⟨A1, c1, e1, -, -, -⟩ := own_isv h.rows.nodes
  obtain ⟨A2, c2, e2, -, -, -⟩ := own_isv h.rows.vips
  obtain ⟨A3, c3, e3, -, -, -⟩ := own_isv h.rows.views
  obtain ⟨A4, c4, e4, -, -, -⟩ := own_isv h.rows.sets
  subst e1 e2 e3 e4
  have f14 := blk_free h.blk 14
  obtain ⟨w1, hw1⟩ : ∃ w1, w.setCell ⟨p, 14, none⟩ (.bool false) = w1 := ⟨_, rfl⟩
  obtain ⟨hg1, hk1⟩ := keptS_cell h.blk hw1
  have hr1 := h.own hk1
  have h1 : PlC w1 base p _ _ _ _ wv { P with op := false } := ⟨hg1, ⟨hr1.nodes, hr1.vips, hr1.views, hr1.sets, hr1.wait⟩, h.hb⟩
  have hpz := h.lt
  have hM1 : MaxAt w1 := StC.maxAt hM hk1 (fun e => by
    obtain ⟨m, hm⟩ := hM
    have h2 := blk_cell h.blk 0
    rw [← e] at h2
    rw [hm] at h2
    unfold plA cfC at h2
    cases h2)
  have hz1 := hk1.size
  clear hM hg1 hr1
  replace h := hide h
  replace h1 := hide h1
  replace hM1 := hide hM1
  replace hk1 := hide hk1
  replace hcs := hide hcs
  replace hX := hide hX
  replace hok := hide hok
  replace hm := hide hm
  replace ho := hide ho
  go_enter Tryd.func44, Tryd.ntmps44
  go_upto_region 4 with fail
  clear k14 k15 f14 hw1
  refine wp_region_X (Below w1.heap.size) (by as_aux_lemma => kernel_rfl) ?_
  intro w2 hbd
  have h2 := h1.out.below hbd
  have hM2 := hM1.out.below hbd
  have hk2 : KeptS w.heap.size (fun k => k = p) w w2 := keptS_trans _ _ _ _ _ hk1.out (keptS_of_below hbd hz1)
  have l12 := fun l : RelW (Below w1.heap.size) w2 => blk_cell (blk_below l.hk h1.out.lt h2.blk) 12
  have l16 := fun l : RelW (Below w1.heap.size) w2 => blk_cell (blk_below l.hk h1.out.lt h2.blk) 16
  unfold plA cfC at l12 l16
  clear h1 hM1 hk1 hbd
  replace h2 := hide h2
  replace hM2 := hide hM2
  replace hk2 := hide hk2
  refine wpX_seg (Below w1.heap.size) 0 9 (fuel := 0) (by as_aux_lemma => kernel_rfl) (fun d _ _ _ _ h => by cases d <;> exact h) (by as_aux_lemma => kernel_rfl) (by as_aux_lemma => kernel_rfl) ?_
  simp only [List.drop_zero, List.take_succ_cons, List.take_zero]
  iterate 9 (refine wpQX_step (fun K hK => ?_); go_simp; refine hK _ ?_; clear hK K)
  refine wpQF_nil ?_
  clear l12 l16
  refine wpF_done (by as_aux_lemma => kernel_rfl) ?_ 0
  by_cases hg : P.fr = P.gen
  case neg =>
    have hX1 := hX.out
    rw [if_pos hg] at hX1
    subst hX1
    have hne : ((P.fr : Int) != (P.gen : Int)) = true := by rw [bne_iff_ne]; omega
    go_wp2_with fail
    go_ret
    exact ⟨rfl, _, _, _, _, h2.out, hk2.out⟩
  have hX1 := hX.out
  rw [if_neg (fun h => h hg)] at hX1
  have hge : ((P.fr : Int) != (P.gen : Int)) = false := by rw [hg]; simp
  clear hX
  replace hX1 := hide hX1
  go_upto_region 6 with fail
  clear hge
  have hz2 := hk2.out.size
  refine wp_region_X (Below w2.heap.size) (by as_aux_lemma => kernel_rfl) ?_
  intro w3 hbd
  have h3 := h2.out.below hbd
  have hM3 := hM2.out.below hbd
  have hz3 := hbd.size
  have hk3 : KeptS w.heap.size (fun k => k = p) w w3 := keptS_trans _ _ _ _ _ hk2.out (keptS_of_below hbd hz2)
  have lr := fun l : RelW (Below w2.heap.size) w3 => plA_range (blk_below l.hk h2.out.lt h3.blk)
  have l11 := fun l : RelW (Below w2.heap.size) w3 => (show l.w.cell? ⟨p, 11, none⟩ = some (.bool P.has) from blk_cell (blk_below l.hk h2.out.lt h3.blk) 11)
  have l12 := fun l : RelW (Below w2.heap.size) w3 => (show l.w.cell? ⟨p, 12, none⟩ = some (.int .i64 (P.gen : Int)) from blk_cell (blk_below l.hk h2.out.lt h3.blk) 12)
  have l13 := fun l : RelW (Below w2.heap.size) w3 => (show l.w.cell? ⟨p, 13, none⟩ = some (.slice A4 P.sets.length c4) from blk_cell (blk_below l.hk h2.out.lt h3.blk) 13)
  clear h2 hM2 hk2 hbd
  replace h3 := hide h3
  replace hM3 := hide hM3
  replace hk3 := hide hk3
  replace lr := hide lr
  refine wpX_seg (Below w2.heap.size) 0 16 (fuel := 3) (by as_aux_lemma => kernel_rfl) (fun d _ _ _ _ h => by cases d <;> exact h) (by as_aux_lemma => kernel_rfl) (by as_aux_lemma => kernel_rfl) ?_
  simp only [List.drop_zero, List.take_succ_cons, List.take_zero]
  iterate 3 (refine wpQX_step (fun K hK => ?_); go_simp; refine hK _ ?_; clear hK K)
  refine wpQX_load rfl 30 (.tmp 33) rfl p 0 rfl _ _ lr.out Tryd.underlying30 rfl (by kernel_rfl) ?_
  simp only [Array.toArray_toList]
  unfold cfC
  go_simp
  iterate 12 (refine wpQX_step (fun K hK => ?_); go_simp; refine hK _ ?_; clear hK K)
  refine wpQF_nil ?_
  clear l11 l12 l13
  refine wpF_step 16 rfl (by as_aux_lemma => kernel_rfl) (fun K hK => ?_)
  go_simp
  refine hK _ _ (IsRel.refl _) ?_
  clear hK K
  refine wpF_step 17 rfl (by as_aux_lemma => kernel_rfl) (fun K hK => ?_)
  go_simp
  refine hK _ _ ((Below.refl _ _).alloc (by omega) _) ?_
  clear hK K
  obtain ⟨w4, hw4⟩ : ∃ w4, w3.alloc (.cells (plA (startX P) (.slice A1 P.c.nodes.length c1) (.slice A2 P.c.vips.length c2) (.slice A3 P.c.views.length c3) (.slice A4 P.sets.length c4) (.slice none 0 0)) 63) = w4 := ⟨_, rfl⟩
  have hb4 : Below w3.heap.size w3 w4 := hw4 ▸ (Below.refl _ _).alloc (Nat.le_refl _) _
  have hg4 : w4.heap[w3.heap.size]? = some (.cells (plA (startX P) (.slice A1 P.c.nodes.length c1) (.slice A2 P.c.vips.length c2) (.slice A3 P.c.views.length c3) (.slice A4 P.sets.length c4) (.slice none 0 0)) 63 (0, 0)) := hw4 ▸ blk_new _ _ _
  change wpF _ _ _ _ _ _ _ _ (w3.alloc (.cells (plA (startX P) (.slice A1 P.c.nodes.length c1) (.slice A2 P.c.vips.length c2) (.slice A3 P.c.views.length c3) (.slice A4 P.sets.length c4) (.slice none 0 0)) 63))
  rw [hw4]
  have h4 := h3.out.below hb4
  have hM4 := hM3.out.below hb4
  have hk4 : KeptS w.heap.size (fun k => k = p) w w4 := keptS_trans _ _ _ _ _ hk3.out (keptS_of_below hb4 (by omega))
  have hx4 : PlC w4 base w3.heap.size (.slice A1 P.c.nodes.length c1) (.slice A2 P.c.vips.length c2) (.slice A3 P.c.views.length c3) (.slice A4 P.sets.length c4) (.slice none 0 0) (startX P) := ⟨hg4, ⟨h4.rows.nodes, h4.rows.vips, h4.rows.views, h4.rows.sets, World.ownsRow_nil _ _ _ _⟩, by have := h.out.hb; omega⟩
  obtain ⟨x, hx⟩ : ∃ x, w3.heap.size = x := ⟨_, rfl⟩
  rw [hx] at hx4 hz3 ⊢
  obtain ⟨A, cap, hwv, b1, b2, -⟩ := own_isv h4.rows.wait
  subst hwv
  clear hw4 hb4 hg4 h3 hM3 hk3
  replace h4 := hide h4
  replace hM4 := hide hM4
  replace hk4 := hide hk4
  replace hx4 := hide hx4
  refine wpF_step 18 rfl (by as_aux_lemma => kernel_rfl) (fun K hK => ?_)
  go_simp
  refine hK _ _ (IsRel.refl _) ?_
  clear hK K
  refine wpF_done (by as_aux_lemma => kernel_rfl) ?_ 0
  obtain ⟨L, hL⟩ : ∃ L, P.wait.length = L := ⟨_, rfl⟩
  dsimp only at b1
  rw [hL] at hgen hn b1
  have hst : (startX P).ok := ⟨hok.out.v, hok.out.len⟩
  replace hst := hide hst
  go_wp2_with fail
  go_loopw [4, 5, 6] (fun iv _ _ wr => ∃ (i : Nat) (X1 : Pl) (b1 b2 b3 bs : Value), i ≤ L ∧ iv = .int .i64 (i : Int) ∧ runP (startX P) (P.wait.take i) = .ok X1 ∧ PlC wr base x b1 b2 b3 bs (.slice none 0 0) X1 ∧ X1.ok ∧ X1.gen ≤ P.gen + i ∧ X1.sets.length ≤ P.sets.length + i ∧ PlC wr base p (.slice A1 P.c.nodes.length c1) (.slice A2 P.c.vips.length c2) (.slice A3 P.c.views.length c3) (.slice A4 P.sets.length c4) (.slice A P.wait.length cap) { P with op := false } ∧ MaxAt wr ∧ KeptS w.heap.size (fun k => k = p) w wr) (fun iv _ _ _ => L - (intOf iv).toNat)
  case atStart => exact ⟨0, startX P, _, _, _, _, by omega, rfl, by rw [List.take_zero]; rfl, hx4.out, hst.out, Nat.le_refl _, Nat.le_refl _, h4.out, hM4.out, hk4.out⟩
  case round =>
    obtain ⟨i, X1, b1, b2, b3, bs, hil, rfl, hrun, hXr, hXo, hXg, hXs, hPr, hMr, hkr⟩ := hrel
    have hzr := hkr.size
    by_cases hin : i < L
    · have hlt : (i : Int) < (L : Int) := by omega
      obtain ⟨A9, cap9, e9, -, -, hIV⟩ := own_isv hPr.rows.wait
      cases e9
      obtain ⟨b, off, o, rfl, hbk, hni, hcell⟩ := IsT.at (f := woC) (size := 4) (fun _ => rfl) (by decide) (⟨rfl, hIV⟩ : IsT woC 4 wr wr.heap.size A P.wait.length P.wait) (i := i) (by omega)
      have wi1 : IntKind.i64.wrap ((i : Int) + 1) = ((i + 1 : Nat) : Int) := by rw [wraps62 _ (by omega) (by unfold big at hgen; omega)]; omega
      have hol := hcs.out o (List.mem_of_getElem? hni)
      have hNx := fun h => runP_next hrun hni h
      have hEr := fun h => runP_err hrun hni h
      have hgn := chP_n X1 o
      have hok2 := chP_ok hXo hol
      have k17 := (show wr.cell? ⟨p, 17, none⟩ = some (.slice (some ⟨b, off, none⟩) P.wait.length cap) from blk_cell hPr.blk 17)
      rw [hL] at k17
      clear hIV hni hrun
      obtain ⟨ok, ot, on, ow⟩ := o
      dsimp only at hol
      have y0 : wr.cell? ⟨b, off + i * 4, none⟩ = some (.int .i64 ok) := hcell 0 _ rfl
      have y1 : wr.cell? ⟨b, off + i * 4 + 1, none⟩ = some (.string (str ot)) := hcell 1 _ rfl
      have y2 : wr.cell? ⟨b, off + i * 4 + 2, none⟩ = some (.string (str on)) := hcell 2 _ rfl
      have y3 : wr.cell? ⟨b, off + i * 4 + 3, none⟩ = some (.int .i64 ow) := hcell 3 _ rfl
      clear hcell
      replace hNx := hide hNx
      replace hEr := hide hEr
      replace hXr := hide hXr
      replace hPr := hide hPr
      replace hMr := hide hMr
      replace hkr := hide hkr
      replace hXo := hide hXo
      replace hok2 := hide hok2
      go_upto_region 10 with fail
      apply wp_region_lit
      iterate 7 (refine wpList_plain rfl fun K hK => ?_; go_simp; refine hK _ _ ?_; clear hK K)
      refine wpl_new rfl rfl 65 _ (alloc_wo _ rfl) 5 rfl (.tmp 64) rfl _ (fun _ => rfl) (fun _ => rfl) rfl (by kernel_rfl) (wo_one ok (str ot) (str on) ow) ?_
      intro w5 hg5 hb5 hz5
      refine wpList_nil ?_
      go_simp
      have hX5 := hXr.out.below hb5
      have hP5 := hPr.out.below hb5
      have hM5 := hMr.out.below hb5
      have hk5 : KeptS w.heap.size (fun k => k = p) w w5 := keptS_trans _ _ _ _ _ hkr.out (keptS_of_below hb5 hzr)
      have d0 := blk_cell hg5 0
      have d1 := blk_cell hg5 1
      have d2 := blk_cell hg5 2
      have d3 := blk_cell hg5 3
      clear y0 y1 y2 y3 k17 hXr hPr hMr hkr hb5 hg5
      have qL := pload_any X1 ot hol w5 hX5 (by omega) hM5
      have qE := pload_any X1 [] (by decide) w5 hX5 (by omega) hM5
      have qW := pweight_any X1 on ow w5 hX5 (by omega) (by omega) hXo.out.len (fun hh => hXo.out.tree hh)
      rw [show str [] = ⟨#[]⟩ from rfl] at qE
      have ez : ((str on).toList == []) = decide (on = []) := by
        rw [show (str on).toList = on by simp [str, ByteArray.toList_eq]]
        rcases on with _ | ⟨a, l⟩ <;> rfl
      obtain ⟨bn, hbn⟩ : ∃ b, decide (on = []) = b := ⟨_, rfl⟩
      rw [hbn] at ez
      obtain ⟨ev, hev⟩ : ∃ e, (chP X1 ⟨ok, ot, on, ow⟩).2 = e := ⟨_, rfl⟩
      obtain ⟨X2, hX2⟩ : ∃ r, (chP X1 ⟨ok, ot, on, ow⟩).1 = r := ⟨_, rfl⟩
      have hz5' : w.heap.size ≤ w5.heap.size := by omega
      replace hX5 := hide hX5
      replace hP5 := hide hP5
      replace hM5 := hide hM5
      replace hk5 := hide hk5
      replace qL := hide qL
      replace qE := hide qE
      replace qW := hide qW
      go_upto_if 67 with fail
      go_cut [6] (fun fv wx => fv = .int .i64 ev ∧ PlTo w5 wx base x (.slice none 0 0) X2)
      case first =>
        by_cases hk3 : ok = 3
        · have e9 : chP X1 ⟨ok, ot, on, ow⟩ = ((loadP X1 ot).1, (loadP X1 ot).2.2) := if_pos hk3
          rw [e9] at hev hX2
          dsimp only at hev hX2
          have q := qL.out
          rw [hX2, hev] at q
          subst hk3
          clear e9 hev qL qE qW
          replace q := hide q
          go_wp2_with fail
          refine (q.out).mono ?_
          rintro e w6 ⟨rfl, h6⟩
          clear q
          replace h6 := hide h6
          go_wp2_with fail
          go_meet
          exact ⟨rfl, h6.out⟩
        have hk3' : (ok == 3) = false := by simpa using hk3
        cases bn
        · have e9 : chP X1 ⟨ok, ot, on, ow⟩ = ((weightP X1 on ow).1, ((weightP X1 on ow).2 : Int)) := (if_neg hk3).trans (if_neg (of_decide_eq_false hbn))
          rw [e9] at hev hX2
          dsimp only at hev hX2
          have q := qW.out
          rw [hX2] at q
          obtain ⟨m, hm2⟩ : ∃ m, (weightP X1 on ow).2 = m := ⟨_, rfl⟩
          rw [hm2] at q hev
          subst hev
          clear e9 hm2 qL qE qW
          replace q := hide q
          go_wp2_with fail
          refine (q.out).mono ?_
          rintro e w6 ⟨rfl, h6⟩
          clear q
          replace h6 := hide h6
          go_wp2_with fail
          go_meet
          exact ⟨rfl, h6.out⟩
        · have e9 : chP X1 ⟨ok, ot, on, ow⟩ = ((loadP X1 []).1, (loadP X1 []).2.2) := (if_neg hk3).trans (if_pos (of_decide_eq_true hbn))
          rw [e9] at hev hX2
          dsimp only at hev hX2
          have q := qE.out
          rw [hX2, hev] at q
          clear e9 hev qL qE qW
          replace q := hide q
          go_wp2_with fail
          refine (q.out).mono ?_
          rintro e w6 ⟨rfl, h6⟩
          clear q
          replace h6 := hide h6
          go_wp2_with fail
          go_meet
          exact ⟨rfl, h6.out⟩
      case rest =>
      obtain ⟨rfl, d1', d2', d3', ds', hX6, hk6⟩ := hcut
      have hpx : p ≠ x := by omega
      have hP6 := hP5.out.keptX hX5.out.blk hk6 hpx
      have hM6 := StC.maxAt hM5.out hk6 (fun e => hX5.out.max hM5.out e.symm)
      have hkc : KeptS w.heap.size (fun k => k = p) w wc := keptS_trans _ _ _ _ _ hk5.out (keptS_less hk6 hz5' (fun k hk e => by omega))
      have hNx2 := hNx.out
      have hEr2 := hEr.out
      have hok3 := hok2.out
      rw [hev, hX2] at hNx2
      rw [hev] at hEr2
      rw [hX2] at hgn hok3
      clear hk6 hNx hEr hX5 hP5 hM5 hk5 qL qE qW ez hbn d0 d1 d2 d3 hev hX2 hok2 hXo
      replace hX6 := hide hX6
      replace hP6 := hide hP6
      replace hM6 := hide hM6
      replace hkc := hide hkc
      replace hNx2 := hide hNx2
      replace hEr2 := hide hEr2
      replace hok3 := hide hok3
      by_cases he : ev = 0
      case neg =>
        have hXX := hX1.out
        rw [hEr2.out he] at hXX
        dsimp only at hXX
        subst hXX
        have hne9 : (ev != 0) = true := by rw [bne_iff_ne]; exact he
        clear hNx2 hEr2
        go_wp2_with fail
        go_ret
        have h9 := hP6.out
        rw [hL, hg] at h9
        exact ⟨rfl, _, _, _, _, h9, hkc.out⟩
      case pos =>
        have hrun2 := hNx2.out he
        subst he
        clear hNx2 hEr2
        replace hrun2 := hide hrun2
        go_wp2_with fail
        exact ⟨⟨i + 1, X2, d1', d2', d3', ds', by omega, by first | rfl | go_num, hrun2.out, hX6.out, hok3.out, by omega, by omega, hP6.out, hM6.out, hkc.out⟩, by simp only [intOf]; omega⟩
    · obtain rfl : i = L := by omega
      have hlt : ((i : Int) < (i : Int)) = False := by simp
      have hXX := hX1.out
      rw [← hL, List.take_length] at hrun
      rw [hrun] at hXX
      dsimp only at hXX
      subst hXX
      have k17 := (show wr.cell? ⟨p, 17, none⟩ = some (.slice A P.wait.length cap) from blk_cell hPr.blk 17)
      rw [hL] at k17
      have hpx : p ≠ x := by omega
      obtain ⟨B1, j1, e1, -, -, -⟩ := own_isv hXr.rows.nodes
      obtain ⟨B2, j2, e2, -, -, -⟩ := own_isv hXr.rows.vips
      obtain ⟨B3, j3, e3, -, -, -⟩ := own_isv hXr.rows.views
      obtain ⟨B4, j4, e4, -, -, -⟩ := own_isv hXr.rows.sets
      subst e1 e2 e3 e4
      clear hrun hMr hx4 h4 hM4 hk4 hXo
      replace hXr := hide hXr
      replace hPr := hide hPr
      replace hkr := hide hkr
      go_upto_region 19 with fail
      clear k17
      apply wp_region_lit
      iterate 4 (refine wpList_plain rfl fun K hK => ?_; go_simp; refine hK _ _ ?_; clear hK K)
      refine wpList_load_mid rfl 30 (.tmp 95) rfl x 0 rfl _ _ (plA_range hXr.out.blk) Tryd.underlying30 rfl (by kernel_rfl) ?_
      simp only [Array.toArray_toList]
      iterate 2 (refine wpList_plain rfl fun K hK => ?_; go_simp; refine hK _ _ ?_; clear hK K)
      refine wpl_st rfl 30 (.tmp 98) (.tmp 96) rfl p 0 rfl (cfC X1.c (.slice B1 X1.c.nodes.length j1) (.slice B2 X1.c.vips.length j2) (.slice B3 X1.c.views.length j3)) rfl hPr.out.blk (by show 0 + 11 ≤ 18; decide) (by kernel_rfl) (cf_one _ _ _ rfl rfl rfl _ _ _ _ _ _ _ _) fun w6 hg6 g6 => ?_
      rw [putA_plA] at hg6
      refine wpList_nil ?_
      go_simp
      have hk6 : KeptS wr.heap.size (fun k => k = p) wr w6 := ⟨g6.os, g6.tape, g6.output, g6.size, fun k hk hne => g6.block k hk (fun e => hne (Option.some.inj e))⟩
      have hx6 := hXr.out.keptX hPr.out.blk hk6 (Ne.symm hpx)
      obtain ⟨w7, hw7⟩ : ∃ w7, w6.setCell ⟨p, 11, none⟩ (.bool X1.has) = w7 := ⟨_, rfl⟩
      obtain ⟨hg7, hk7⟩ := keptS_cell hg6 hw7
      have hx7 := hx6.keptX hg6 hk7 (Ne.symm hpx)
      obtain ⟨w8, hw8⟩ : ∃ w8, w7.setCell ⟨p, 13, none⟩ (.slice B4 X1.sets.length j4) = w8 := ⟨_, rfl⟩
      obtain ⟨hg8, hk8⟩ := keptS_cell hg7 hw8
      have hx8 := hx7.keptX hg7 hk8 (Ne.symm hpx)
      have x11 := (show w6.cell? ⟨x, 11, none⟩ = some (.bool X1.has) from blk_cell hx6.blk 11)
      have c11 := (show w6.cell? ⟨p, 11, none⟩ = some (.bool P.has) from blk_cell hg6 11)
      have f11 := blk_free hg6 11
      have x13 := (show w7.cell? ⟨x, 13, none⟩ = some (.slice B4 X1.sets.length j4) from blk_cell hx7.blk 13)
      have c13 := (show w7.cell? ⟨p, 13, none⟩ = some (.slice A4 P.sets.length c4) from blk_cell hg7 13)
      have f13 := blk_free hg7 13
      have y17 := (show w8.cell? ⟨p, 17, none⟩ = some (.slice A P.wait.length cap) from blk_cell hg8 17)
      rw [hL] at y17
      have y12 := (show w8.cell? ⟨p, 12, none⟩ = some (.int .i64 (P.gen : Int)) from blk_cell hg8 12)
      have f12 := blk_free hg8 12
      have z6 := hk6.size
      have z7 := hk7.size
      have hwait8 : w8.ownsRow base 65 4 (.slice A P.wait.length cap) P.wait.length (P.wait.map woC).flatten := by
        have r6 := row_keptP hPr.out.rows.wait hk6 (fun k e => by subst e; exact row_ty hPr.out.rows.wait hPr.out.blk (by decide))
        have r7 := row_keptP r6 hk7 (fun k e => by subst e; exact row_ty r6 hg6 (by decide))
        exact row_keptP r7 hk8 (fun k e => by subst e; exact row_ty r7 hg7 (by decide))
      have hkk8 : KeptS w.heap.size (fun k => k = p) w w8 := keptS_trans _ _ _ _ _ (keptS_trans _ _ _ _ _ (keptS_trans _ _ _ _ _ hkr.out (keptS_less hk6 hzr (fun k _ e => e))) (keptS_less hk7 (by omega) (fun k _ e => e))) (keptS_less hk8 (by omega) (fun k _ e => e))
      have h8 : PlC w8 base p (.slice B1 X1.c.nodes.length j1) (.slice B2 X1.c.vips.length j2) (.slice B3 X1.c.views.length j3) (.slice B4 X1.sets.length j4) (.slice A P.wait.length cap) { P with op := false, c := X1.c, has := X1.has, sets := X1.sets } :=
        ⟨hg8, ⟨hx8.rows.nodes, hx8.rows.vips, hx8.rows.views, hx8.rows.sets, hwait8⟩, hPr.out.hb⟩
      clear hXr hPr hkr hk6 hx6 hg6 g6 hk7 hx7 hg7 hk8 hx8 hg8 hwait8
      replace h8 := hide h8
      replace hkk8 := hide hkk8
      by_cases h0 : i = 0
      · subst h0
        have hw0 : P.wait = [] := List.length_eq_zero_iff.1 hL
        go_wp2_with fail
        go_ret
        have h9 := h8.out
        rw [hw0, hg] at h9
        simp only [List.length_nil] at h9
        exact ⟨rfl, _, _, _, _, h9, hkk8.out⟩
      · have h1 : 0 < (i : Int) := by omega
        have hw0 : P.wait ≠ [] := by intro e; rw [e] at hL; simp at hL; omega
        obtain ⟨w9, hw9⟩ : ∃ w9, w8.setCell ⟨p, 12, none⟩ (.int .i64 ((P.gen : Int) + 1)) = w9 := ⟨_, rfl⟩
        obtain ⟨hg9, hk9⟩ := keptS_cell h8.out.blk hw9
        have hr9 := h8.out.own hk9
        have h9 : PlC w9 base p (.slice B1 X1.c.nodes.length j1) (.slice B2 X1.c.vips.length j2) (.slice B3 X1.c.views.length j3) (.slice B4 X1.sets.length j4) (.slice A P.wait.length cap) { P with op := false, c := X1.c, has := X1.has, sets := X1.sets, gen := P.gen + 1 } :=
          ⟨hg9, ⟨hr9.nodes, hr9.vips, hr9.views, hr9.sets, hr9.wait⟩, h8.out.hb⟩
        have hkk9 : KeptS w.heap.size (fun k => k = p) w w9 := keptS_trans _ _ _ _ _ hkk8.out (keptS_less hk9 hkk8.out.size (fun k _ e => e))
        have wg : IntKind.i64.wrap ((P.gen : Int) + 1) = (P.gen : Int) + 1 := wraps62 _ (by omega) (by unfold big at hgen; omega)
        clear hg9 hk9 hr9 h8 hkk8
        rw [hL, hg] at h9
        replace h9 := hide h9
        replace hkk9 := hide hkk9
        go_wp2_with fail
        go_ret
        exact ⟨rfl, _, _, _, _, h9.out, hkk9.out⟩
end Store20
end Go.Proofs.YtcpokkkdmenmgaaDoor
/- store, the law: both stores in memory, side by side; what a change of one leaves of the others. No condition. -/
namespace Go.Proofs.YtcpokkkdmenmgaaDoor
open Go.RowKit Go.ChangeShapes Go.WideShapes Go.ChangeAt Go.Deep
namespace Store20
open Conf18 (Nd Vp Vw Cfg zA MapI lt_of_blk row_not_map)
open Addr05 (Adr MaxAt)
open Val19
/-- A block of a type; a map's block. -/
def Ty (w : World) (k : Nat) (T : TypeId) : Prop := ∃ cs, w.heap[k]? = some (.cells cs T (0, 0))
def Mp (w : World) (k : Nat) : Prop := ∃ es c, w.heap[k]? = some (.map es c)
theorem Ty.ne {w : World} {k j : Nat} {T U : TypeId} (h : Ty w k T) (h' : Ty w j U) (hne : T ≠ U) : k ≠ j := by
  rintro rfl
  obtain ⟨cs, h1⟩ := h
  obtain ⟨cs', h2⟩ := h'
  rw [h1] at h2
  simp at h2
  exact hne h2.2
theorem Ty.nm {w : World} {k j : Nat} {T : TypeId} (h : Ty w k T) (h' : Mp w j) : k ≠ j := by
  rintro rfl
  obtain ⟨cs, h1⟩ := h
  obtain ⟨es, c, h2⟩ := h'
  rw [h1] at h2
  cases h2
theorem rowTy {w : World} {base size n k : Nat} {e : TypeId} {v : Value} {xs : List Value} (h : w.ownsRow base e size v n xs) (hk : v.ownBlock = some k) : Ty w k e := by
  rcases h.2 with ⟨rfl, _⟩ | ⟨g, cap, cur, rfl, _, hh, _⟩
  · cases hk
  · cases hk
    exact ⟨cur, hh⟩
theorem rowNo {w : World} {base size n k : Nat} {e T : TypeId} {v : Value} {xs : List Value} (h : w.ownsRow base e size v n xs) (hk : Ty w k T) (hne : T ≠ e) : v.ownBlock ≠ some k := fun e2 => (hk.ne (rowTy h e2) hne) rfl
theorem rowNm {w : World} {base size n k : Nat} {e : TypeId} {v : Value} {xs : List Value} (h : w.ownsRow base e size v n xs) (hk : Mp w k) : v.ownBlock ≠ some k := fun e2 => ((rowTy h e2).nm hk) rfl
section
variable {w w' : World} {B s mp lo hi n t p : Nat} {nv lv a1 a2 a3 sv wv : Value} {S : St} {T : Tx} {P : Pl} {Q : Nat → Prop}
theorem StC.ty (h : StC w s mp lo hi n nv S) : Ty w s 45 ∧ Mp w mp := ⟨⟨_, h.blk⟩, h.map.blk⟩
theorem TxC.ty (h : TxC w B t s lv T) : Ty w t 101 ∧ ∀ k, lv.ownBlock = some k → Ty w k 105 := ⟨⟨_, h.blk⟩, fun k hk => rowTy h.row hk⟩
theorem PlC.ty (h : PlC w B p a1 a2 a3 sv wv P) : Ty w p 63 ∧ ∀ k, wv.ownBlock = some k → Ty w k 65 := ⟨⟨_, h.blk⟩, fun k hk => rowTy h.rows.wait hk⟩
theorem StC.keptG (h : StC w s mp lo hi n nv S) (hb : KeptS w.heap.size Q w w') (hQ : ∀ k, Q k → (∃ T, Ty w k T ∧ T ≠ 45) ∧ (k < lo ∨ hi ≤ k)) : StC w' s mp lo hi n nv S :=
  h.keptS hb (fun hq => by obtain ⟨⟨T, h1, h2⟩, -⟩ := hQ s hq; exact h1.ne h.ty.1 h2 rfl) (fun hq => by obtain ⟨⟨T, h1, -⟩, -⟩ := hQ mp hq; exact h1.nm h.ty.2 rfl) (fun k h1 h2 hq => by have := (hQ k hq).2; omega)
theorem TxC.keptG (h : TxC w B t s lv T) (hb : KeptS w.heap.size Q w w') (hQ : ∀ k, Q k → Mp w k ∨ ∃ U, Ty w k U ∧ U ≠ 101 ∧ U ≠ 105) : TxC w' B t s lv T :=
  h.keptS hb (fun hq => by rcases hQ t hq with h1 | ⟨U, h1, h2, -⟩; exact h.ty.1.nm h1 rfl; exact h1.ne h.ty.1 h2 rfl) (fun k hk hq => by rcases hQ k hq with h1 | ⟨U, h1, -, h2⟩; exact (h.ty.2 k hk).nm h1 rfl; exact h1.ne (h.ty.2 k hk) h2 rfl)
theorem PlC.keptG (h : PlC w B p a1 a2 a3 sv wv P) (hb : KeptS w.heap.size Q w w') (hQ : ∀ k, Q k → Mp w k ∨ Ty w k 45 ∨ Ty w k 101 ∨ Ty w k 105) : PlC w' B p a1 a2 a3 sv wv P := by
  have key : ∀ k, Q k → ∀ {e : TypeId} {size n : Nat} {v : Value} {xs : List Value}, w.ownsRow B e size v n xs → 45 ≠ e → 101 ≠ e → 105 ≠ e → v.ownBlock ≠ some k := by
    intro k hq e size n v xs hr h1 h2 h3
    rcases hQ k hq with h4 | h4 | h4 | h4
    · exact rowNm hr h4
    · exact rowNo hr h4 h1
    · exact rowNo hr h4 h2
    · exact rowNo hr h4 h3
  refine ⟨(hb.block p h.lt (fun hq => ?_)).trans h.blk, h.rows.keptP hb (fun k hq => ⟨key k hq h.rows.nodes (by decide) (by decide) (by decide), key k hq h.rows.vips (by decide) (by decide) (by decide), key k hq h.rows.views (by decide) (by decide) (by decide), key k hq h.rows.sets (by decide) (by decide) (by decide), key k hq h.rows.wait (by decide) (by decide) (by decide)⟩), h.hb⟩
  rcases hQ p hq with h4 | h4 | h4 | h4
  · exact h.ty.1.nm h4 rfl
  · exact h4.ne h.ty.1 (by decide) rfl
  · exact h4.ne h.ty.1 (by decide) rfl
  · exact h4.ne h.ty.1 (by decide) rfl
end
/-- The changes that wait, of both. -/
def TxRel (P : Pl) : Option Tx → Prop
  | none => P.made = false ∧ P.wait = []
  | some T => P.made = true ∧ T.over = !P.op ∧ T.gen = P.fr ∧ TellsL T.list P.wait ∧ P.wait.length ≤ 64 ∧ ∀ o ∈ P.wait, o.text.length ≤ 65536 ∧ o.name.length ≤ maxLen
structure Rel (m : Nat) (S : St) (P : Pl) (TO : Option Tx) : Prop where
  al : Alike S P
  ok : P.ok
  gen : S.gen ≤ m
  sets : P.sets.length ≤ m
  tx : TxRel P TO
def TxIn (w : World) (Z : Nat → Prop) (B s lo hi : Nat) (tv : Value) : Option Tx → Prop
  | none => tv = .pointer none
  | some T => ∃ t lv, tv = .pointer (some ⟨t, 0, none⟩) ∧ TxC w B t s lv T ∧ (t < lo ∨ hi ≤ t) ∧ (∀ k, lv.ownBlock = some k → k < lo ∨ hi ≤ k) ∧ ∀ k, Z k → k ≠ t ∧ lv.ownBlock ≠ some k
structure Scene (w : World) (Z : Nat → Prop) (B s p m : Nat) (tv : Value) (S : St) (P : Pl) (TO : Option Tx) (mp lo hi n : Nat) (nv a1 a2 a3 sv wv : Value) : Prop where
  st : StC w s mp lo hi n nv S
  pl : PlC w B p a1 a2 a3 sv wv P
  tx : TxIn w Z B s lo hi tv TO
  bs : B ≤ s ∧ B ≤ mp
  n : n ≤ m
  ap : p < lo ∨ hi ≤ p
  aw : ∀ k, wv.ownBlock = some k → k < lo ∨ hi ≤ k
  max : MaxAt w
  mb : 0 < B
  fz : ∀ k, Z k → k < w.heap.size ∧ k ≠ s ∧ k ≠ mp ∧ k ≠ p ∧ wv.ownBlock ≠ some k
def ScE (w : World) (Z : Nat → Prop) (B s p m : Nat) (tv : Value) (S : St) (P : Pl) (TO : Option Tx) : Prop := ∃ mp lo hi n nv a1 a2 a3 sv wv, Scene w Z B s p m tv S P TO mp lo hi n nv a1 a2 a3 sv wv
section
variable {w w' : World} {Z : Nat → Prop} {B s p m mp lo hi n : Nat} {tv nv a1 a2 a3 sv wv : Value} {S S' : St} {P P' : Pl} {TO : Option Tx}
theorem TxIn.kept {lo' hi' : Nat} {Q : Nat → Prop} (h : TxIn w Z B s lo hi tv TO) (hb : KeptS w.heap.size Q w w') (hQ : ∀ k, Q k → Mp w k ∨ ∃ U, Ty w k U ∧ U ≠ 101 ∧ U ≠ 105) (hlo : (lo' = lo ∧ hi' = hi) ∨ w.heap.size ≤ lo') : TxIn w' Z B s lo' hi' tv TO := by
  rcases TO with _ | T
  · exact h
  · obtain ⟨t, lv, h1, h2, h3, h4, h5⟩ := h
    refine ⟨t, lv, h1, h2.keptG hb hQ, ?_, fun k hk => ?_, h5⟩
    · have := h2.lt; omega
    · have := (World.ownsRow.lt h2.row k hk).2
      have := h4 k hk
      omega
/-- The store has changed. -/
theorem Scene.store (h : Scene w Z B s p m tv S P TO mp lo hi n nv a1 a2 a3 sv wv) (ht : StTo w w' s mp lo hi n S') : ∃ lo' hi' n' nv', Scene w' Z B s p (m + 1) tv S' P TO mp lo' hi' n' nv' a1 a2 a3 sv wv ∧ KeptS w.heap.size (fun k => k = s ∨ k = mp) w w' := by
  obtain ⟨lo', hi', n', nv', h1, h2, h3, h4⟩ := ht
  have hty := h.st.ty
  have hp := h.pl.lt
  refine ⟨lo', hi', n', nv', ⟨h1, h.pl.keptG h4 (fun k hk => ?_), h.tx.kept h4 (fun k hk => ?_) h3, h.bs, by have := h.n; omega, ?_, fun k hk => ?_, StC.maxAt h.max h4 (fun e => by have := h.mb; have := h.bs; omega), h.mb, fun k hk => by have := h.fz k hk; exact ⟨Nat.lt_of_lt_of_le this.1 h4.size, this.2⟩⟩, h4⟩
  · rcases hk with rfl | rfl
    · exact .inr (.inl hty.1)
    · exact .inl hty.2
  · rcases hk with rfl | rfl
    · exact .inr ⟨_, hty.1, by decide, by decide⟩
    · exact .inl hty.2
  · have := h.ap; omega
  · have := h.aw k hk
    have := (World.ownsRow.lt h.pl.rows.wait k hk).2
    omega
/-- The document's store has changed, but not what waits. -/
theorem Scene.plain (h : Scene w Z B s p m tv S P TO mp lo hi n nv a1 a2 a3 sv wv) (ht : PlTo w w' B p wv P') : ∃ a1' a2' a3' sv', Scene w' Z B s p m tv S P' TO mp lo hi n nv a1' a2' a3' sv' wv ∧ KeptS w.heap.size (fun k => k = p) w w' := by
  obtain ⟨a1', a2', a3', sv', h1, h2⟩ := ht
  have hty := h.pl.ty.1
  refine ⟨a1', a2', a3', sv', ⟨h.st.keptG h2 (fun k hk => ?_), h1, h.tx.kept h2 (fun k hk => ?_) (.inl ⟨rfl, rfl⟩), h.bs, h.n, h.ap, h.aw, StC.maxAt h.max h2 (fun e => h.pl.max h.max e.symm), h.mb, fun k hk => by have := h.fz k hk; exact ⟨Nat.lt_of_lt_of_le this.1 h2.size, this.2⟩⟩, h2⟩
  · subst hk; exact ⟨⟨_, hty, by decide⟩, h.ap⟩
  · subst hk; exact .inr ⟨_, hty, by decide, by decide⟩
theorem Scene.below (h : Scene w Z B s p m tv S P TO mp lo hi n nv a1 a2 a3 sv wv) (hb : Below w.heap.size w w') : Scene w' Z B s p m tv S P TO mp lo hi n nv a1 a2 a3 sv wv :=
  ⟨h.st.below hb, h.pl.below hb, h.tx.kept (Q := fun _ => False) (keptS_of_below hb (Nat.le_refl _)) (fun k hk => hk.elim) (.inl ⟨rfl, rfl⟩), h.bs, h.n, h.ap, h.aw, h.max.below hb, h.mb, fun k hk => by have := h.fz k hk; exact ⟨Nat.lt_of_lt_of_le this.1 hb.size, this.2⟩⟩
/-- A change waits with the document's store. -/
theorem Scene.padd (h : Scene w Z B s p m tv S P TO mp lo hi n nv a1 a2 a3 sv wv) (ht : PaTo w w' B p wv P') : ∃ a1' a2' a3' sv' wv', Scene w' Z B s p m tv S P' TO mp lo hi n nv a1' a2' a3' sv' wv' ∧ KeptS w.heap.size (fun k => k = p ∨ wv.ownBlock = some k) w w' := by
  obtain ⟨a1', a2', a3', sv', wv', h1, h0, h2⟩ := ht
  have hty := h.pl.ty
  refine ⟨a1', a2', a3', sv', wv', ⟨h.st.keptG h2 (fun k hk => ?_), h1, h.tx.kept h2 (fun k hk => ?_) (.inl ⟨rfl, rfl⟩), h.bs, h.n, h.ap, fun k hk => ?_, StC.maxAt h.max h2 (fun e => by have := h.mb; have := h.pl.hb; rcases e with e | e; omega; have := (World.ownsRow.lt h.pl.rows.wait _ e).1; omega), h.mb, fun k hk => ?_⟩, h2⟩
  · rcases hk with rfl | hk
    · exact ⟨⟨_, hty.1, by decide⟩, h.ap⟩
    · exact ⟨⟨_, hty.2 k hk, by decide⟩, h.aw k hk⟩
  · rcases hk with rfl | hk
    · exact .inr ⟨_, hty.1, by decide, by decide⟩
    · exact .inr ⟨_, hty.2 k hk, by decide, by decide⟩
  · rcases h0 with e | ⟨j, e, hj⟩
    · rw [e] at hk; exact h.aw k hk
    · rw [e] at hk
      cases hk
      have := h.st.hh
      omega
  · have h5 := h.fz k hk
    refine ⟨Nat.lt_of_lt_of_le h5.1 h2.size, h5.2.1, h5.2.2.1, h5.2.2.2.1, fun e => ?_⟩
    rcases h0 with e2 | ⟨j, e2, hj⟩
    · rw [e2] at e; exact h5.2.2.2.2 e
    · rw [e2] at e
      cases e
      omega
/-- A change waits with the store. -/
theorem Scene.tadd {t : Nat} {lv : Value} {T T' : Tx} (h : Scene w Z B s p m (.pointer (some ⟨t, 0, none⟩)) S P (some T) mp lo hi n nv a1 a2 a3 sv wv) (hT : TxC w B t s lv T) (hap : (t < lo ∨ hi ≤ t) ∧ (∀ k, lv.ownBlock = some k → k < lo ∨ hi ≤ k) ∧ ∀ k, Z k → k ≠ t ∧ lv.ownBlock ≠ some k) (ht : TxTo w w' B t s lv T') :
    Scene w' Z B s p m (.pointer (some ⟨t, 0, none⟩)) S P (some T') mp lo hi n nv a1 a2 a3 sv wv ∧ KeptS w.heap.size (fun k => k = t ∨ lv.ownBlock = some k) w w' := by
  obtain ⟨lv', h1, h0, h2⟩ := ht
  have hty := hT.ty
  refine ⟨⟨h.st.keptG h2 (fun k hk => ?_), h.pl.keptG h2 (fun k hk => ?_), ⟨t, lv', rfl, h1, hap.1, fun k hk => ?_, fun k hk => ?_⟩, h.bs, h.n, h.ap, h.aw, StC.maxAt h.max h2 (fun e => by have := h.mb; have := hT.hb; rcases e with e | e; omega; have := (World.ownsRow.lt hT.row _ e).1; omega), h.mb, fun k hk => by have := h.fz k hk; exact ⟨Nat.lt_of_lt_of_le this.1 h2.size, this.2⟩⟩, h2⟩
  · rcases hk with rfl | hk
    · exact ⟨⟨_, hty.1, by decide⟩, hap.1⟩
    · exact ⟨⟨_, hty.2 k hk, by decide⟩, hap.2.1 k hk⟩
  · rcases hk with rfl | hk
    · exact .inr (.inr (.inl hty.1))
    · exact .inr (.inr (.inr (hty.2 k hk)))
  · rcases h0 with e | ⟨j, e, hj⟩
    · rw [e] at hk; exact hap.2.1 k hk
    · rw [e] at hk
      cases hk
      have := h.st.hh
      omega
  · have h5 := hap.2.2 k hk
    have h6 := (h.fz k hk).1
    refine ⟨h5.1, fun e => ?_⟩
    rcases h0 with e2 | ⟨j, e2, hj⟩
    · rw [e2] at e; exact h5.2 e
    · rw [e2] at e
      cases e
      omega
/-- No more changes wait with the store. -/
theorem Scene.tover {t : Nat} {lv : Value} {T T' : Tx} (h : Scene w Z B s p m (.pointer (some ⟨t, 0, none⟩)) S P (some T) mp lo hi n nv a1 a2 a3 sv wv) (hT : TxC w B t s lv T) (hap : (t < lo ∨ hi ≤ t) ∧ (∀ k, lv.ownBlock = some k → k < lo ∨ hi ≤ k) ∧ ∀ k, Z k → k ≠ t ∧ lv.ownBlock ≠ some k) (h1 : TxC w' B t s lv T') (h2 : KeptS w.heap.size (fun k => k = t) w w') :
    Scene w' Z B s p m (.pointer (some ⟨t, 0, none⟩)) S P (some T') mp lo hi n nv a1 a2 a3 sv wv :=
  (h.tadd hT hap ⟨lv, h1, .inl rfl, keptS_mono2 h2 (fun k e => .inl e)⟩).1
/-- Changes have taken hold. -/
theorem Scene.commit {t : Nat} {lv : Value} {T : Tx} (h : Scene w Z B s p m (.pointer (some ⟨t, 0, none⟩)) S P (some T) mp lo hi n nv a1 a2 a3 sv wv) (hT : TxC w B t s lv T) (hap : (t < lo ∨ hi ≤ t) ∧ (∀ k, lv.ownBlock = some k → k < lo ∨ hi ≤ k) ∧ ∀ k, Z k → k ≠ t ∧ lv.ownBlock ≠ some k) (hl : T.list.length ≤ 64) (ht : ComTo w w' B t s mp lo hi n lv T S') :
    ∃ mp' lo' hi' n' nv', Scene w' Z B s p (m + 64) (.pointer (some ⟨t, 0, none⟩)) S' P (some { T with over := true }) mp' lo' hi' n' nv' a1 a2 a3 sv wv ∧ KeptS w.heap.size (fun k => k = t ∨ k = s) w w' := by
  obtain ⟨h1, h2, mp', lo', hi', n', nv', h3, h4, h5, h6⟩ := ht
  have hty := hT.ty
  have hst := h.st.ty
  have hz := h2.size
  have hpl := h.pl.lt
  have htl := hT.lt
  refine ⟨mp', lo', hi', n', nv', ⟨h3, h.pl.keptG h2 (fun k hk => ?_), ⟨t, lv, rfl, h1, ?_, fun k hk => ?_, hap.2.2⟩, ⟨h.bs.1, ?_⟩, by have := h.n; omega, ?_, fun k hk => ?_, StC.maxAt h.max h2 (fun e => by have := h.mb; have := hT.hb; have := h.bs; omega), h.mb, fun k hk => by have := h.fz k hk; exact ⟨by omega, this.2.1, by omega, this.2.2.2⟩⟩, h2⟩
  · rcases hk with rfl | rfl
    · exact .inr (.inr (.inl hty.1))
    · exact .inr (.inl hst.1)
  · have := hap.1; omega
  · have := hap.2.1 k hk
    have := (World.ownsRow.lt hT.row k hk).2
    omega
  · have := h.bs; have := h.pl.hb; omega
  · have := h.ap; omega
  · have := h.aw k hk
    have := (World.ownsRow.lt h.pl.rows.wait k hk).2
    omega
end
end Store20
end Go.Proofs.YtcpokkkdmenmgaaDoor
