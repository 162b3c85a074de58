/- store, the law: the document's store, in memory; load. Conditions: texts of at most 65536 bytes, fewer than 2^40 changes. -/
import Derived.Test.YtcpokkkdmenmgaaGreatDoorQStorePlays21
namespace Go.Proofs.YtcpokkkdmenmgaaGreatDoor
open Go.RowKit Go.ChangeShapes Go.WideShapes Go.ChangeAt Go.Deep
namespace Store20
open Conf18 (Nd Vp Vw Cfg zA MapI lt_of_blk cfC CfgR CfgV confF ParseEnd confParse_any alloc_cf cf_one confF_good ndC vpC vwC row_not_x)
open Addr05 (Adr MaxAt)
open Val19
structure Wo where
  kind : Int
  text : List UInt8
  name : List UInt8
  w : Int
structure Pl where
  c : Cfg
  has : Bool
  gen : Nat
  sets : List (List UInt8 × Nat)
  op : Bool
  made : Bool
  fr : Nat
  wait : List Wo
def woC (o : Wo) : List Value := [.int .i64 o.kind, .string (str o.text), .string (str o.name), .int .i64 o.w]
def seC (s : List UInt8 × Nat) : List Value := [.string (str s.1), .int .i64 (s.2 : Int)]
def plA (P : Pl) (a1 a2 a3 sv wv : Value) : Array Value := cfC P.c a1 a2 a3 ++ #[.bool P.has, .int .i64 (P.gen : Int), sv, .bool P.op, .bool P.made, .int .i64 (P.fr : Int), wv]
structure PlR (w : World) (base : Nat) (a1 a2 a3 sv wv : Value) (P : Pl) : Prop where
  nodes : w.ownsRow base 68 7 a1 P.c.nodes.length (P.c.nodes.map ndC).flatten
  vips : w.ownsRow base 70 7 a2 P.c.vips.length (P.c.vips.map vpC).flatten
  views : w.ownsRow base 74 5 a3 P.c.views.length (P.c.views.map vwC).flatten
  sets : w.ownsRow base 76 2 sv P.sets.length (P.sets.map seC).flatten
  wait : w.ownsRow base 40 4 wv P.wait.length (P.wait.map woC).flatten
structure PlC (w : World) (base p : Nat) (a1 a2 a3 sv wv : Value) (P : Pl) : Prop where
  blk : w.heap[p]? = some (.cells (plA P a1 a2 a3 sv wv) 37 (0, 0))
  rows : PlR w base a1 a2 a3 sv wv P
  hb : base ≤ p
def loadP (P : Pl) (t : List UInt8) : Pl × Int × Int := match confF t with
  | .error p => (P, (p.1 : Int), p.2)
  | .ok c => if validF c ≠ 0 then (P, 0, (validF c : Int)) else ({ P with c := c, has := true, sets := [], gen := P.gen + 1 }, 0, 0)
def weightP (P : Pl) (s : List UInt8) (x : Int) : Pl × Nat := if P.has = false then (P, 9) else if x < 0 ∨ 65535 < x then (P, 17) else match hostOf P.c.nodes s with
  | none => (P, 7)
  | some k => ({ P with c := setW P.c k x, sets := P.sets ++ [(s, x.toNat)], gen := P.gen + 1 }, 0)
def PlTo (w w' : World) (base p : Nat) (wv : Value) (P' : Pl) : Prop := ∃ a1 a2 a3 sv, PlC w' base p a1 a2 a3 sv wv P' ∧ KeptS w.heap.size (fun k => k = p) w w'
/-- Rows of a type stay, where no block of that type is changed. -/
theorem row_keptP {w w' : World} {base size n : Nat} {e : TypeId} {v : Value} {xs : List Value} {P : Nat → Prop} (h : w.ownsRow base e size v n xs) (hb : KeptS w.heap.size P w w') (hP : ∀ k, P k → v.ownBlock ≠ some k) : w'.ownsRow base e size v n xs := by
  refine ⟨h.1, h.2.imp id ?_⟩
  rintro ⟨g, cap, cur, e1, e2, e3, e4⟩
  exact ⟨g, cap, cur, e1, e2, (hb.block g (lt_of_blk e3) (fun h => hP g h (by rw [e1]; rfl))).trans e3, e4⟩
theorem row_ty {w : World} {base size n k : Nat} {e T : TypeId} {v : Value} {xs : List Value} {cs : Array Value} (h : w.ownsRow base e size v n xs) (hk : w.heap[k]? = some (.cells cs T (0, 0))) (hne : T ≠ e) : v.ownBlock ≠ some k := by
  intro e2
  rcases row_not_x h hk hne with h1 | h1
  · rw [h1] at e2; cases e2
  · exact h1 e2
section
variable {w w' : World} {base p : Nat} {a1 a2 a3 sv wv : Value} {P : Pl}
theorem PlR.keptP {Q : Nat → Prop} (h : PlR w base a1 a2 a3 sv wv P) (hb : KeptS w.heap.size Q w w') (h1 : ∀ k, Q k → a1.ownBlock ≠ some k ∧ a2.ownBlock ≠ some k ∧ a3.ownBlock ≠ some k ∧ sv.ownBlock ≠ some k ∧ wv.ownBlock ≠ some k) : PlR w' base a1 a2 a3 sv wv P :=
  ⟨row_keptP h.nodes hb (fun k hk => (h1 k hk).1), row_keptP h.vips hb (fun k hk => (h1 k hk).2.1), row_keptP h.views hb (fun k hk => (h1 k hk).2.2.1), row_keptP h.sets hb (fun k hk => (h1 k hk).2.2.2.1), row_keptP h.wait hb (fun k hk => (h1 k hk).2.2.2.2)⟩
/-- A block of another type is none of the rows. -/
theorem PlR.no {k : Nat} {cs : Array Value} {T : TypeId} (h : PlR w base a1 a2 a3 sv wv P) (hk : w.heap[k]? = some (.cells cs T (0, 0))) (hT : T ≠ 68 ∧ T ≠ 70 ∧ T ≠ 74 ∧ T ≠ 76 ∧ T ≠ 40) : a1.ownBlock ≠ some k ∧ a2.ownBlock ≠ some k ∧ a3.ownBlock ≠ some k ∧ sv.ownBlock ≠ some k ∧ wv.ownBlock ≠ some k :=
  ⟨row_ty h.nodes hk hT.1, row_ty h.vips hk hT.2.1, row_ty h.views hk hT.2.2.1, row_ty h.sets hk hT.2.2.2.1, row_ty h.wait hk hT.2.2.2.2⟩
theorem PlR.below (h : PlR w base a1 a2 a3 sv wv P) (hb : Below w.heap.size w w') : PlR w' base a1 a2 a3 sv wv P := ⟨row_on h.nodes hb, row_on h.vips hb, row_on h.views hb, row_on h.sets hb, row_on h.wait hb⟩
theorem PlC.lt (h : PlC w base p a1 a2 a3 sv wv P) : p < w.heap.size := lt_of_blk h.blk
theorem PlC.below (h : PlC w base p a1 a2 a3 sv wv P) (hb : Below w.heap.size w w') : PlC w' base p a1 a2 a3 sv wv P := ⟨(hb.block p h.lt).trans h.blk, h.rows.below hb, h.hb⟩
/-- The document's store's own block is written. -/
theorem PlC.own (h : PlC w base p a1 a2 a3 sv wv P) (hb : KeptS w.heap.size (fun k => k = p) w w') : PlR w' base a1 a2 a3 sv wv P := h.rows.keptP hb (fun k hk => by
  subst hk
  exact h.rows.no h.blk ⟨by decide, by decide, by decide, by decide, by decide⟩)
theorem PlC.same (h : PlC w base p a1 a2 a3 sv wv P) (hb : Below w.heap.size w w') : PlTo w w' base p wv P := ⟨a1, a2, a3, sv, h.below hb, keptS_of_below hb (Nat.le_refl _)⟩
end
theorem cfC_size (c : Cfg) (a1 a2 a3 : Value) : (cfC c a1 a2 a3).size = 11 := rfl
theorem putA_plA (P : Pl) (a1 a2 a3 sv wv b1 b2 b3 : Value) (c : Cfg) : putA (plA P a1 a2 a3 sv wv) 0 (cfC c b1 b2 b3).toList = plA { P with c := c } b1 b2 b3 sv wv := rfl
theorem keptS_cell {w w' : World} {p i : Nat} {u : Value} {cs : Array Value} {T : TypeId} (h : w.heap[p]? = some (.cells cs T (0, 0))) (e : w.setCell ⟨p, i, none⟩ u = w') : w'.heap[p]? = some (.cells (cs.setIfInBounds i u) T (0, 0)) ∧ KeptS w.heap.size (fun k => k = p) w w' := by
  obtain ⟨w2, e2, hg, g2⟩ := store_cell h i u
  rw [e2] at e
  subst e
  exact ⟨hg, g2.os, g2.tape, g2.output, g2.size, fun k hk hne => g2.block k hk (fun e => hne (Option.some.inj e))⟩
set_option maxRecDepth 20000 in
set_option maxHeartbeats 8000000 in
theorem pload_any {base p : Nat} {a1 a2 a3 sv wv : Value} (P : Pl) (t : List UInt8) (ht : t.length ≤ 65536) (w : World) (h : PlC w base p a1 a2 a3 sv wv P) (hgen : P.gen < big) (hM : MaxAt w) :
    Calls Tryz.prog 15 #[.pointer (some ⟨p, 0, none⟩), .string (str t)] w fun e w' => e = .returned (.tuple #[.int .i64 (loadP P t).2.1, .int .i64 (loadP P t).2.2]) ∧ PlTo w w' base p wv (loadP P t).1 := by
  have qP := confParse_any t ht w hM
  unfold ParseEnd at qP
  obtain ⟨X, hX⟩ : ∃ X, loadP P t = X := ⟨_, rfl⟩
  rw [hX]
  unfold loadP at hX
  have hz := h.lt
  clear hM
  replace h := hide h
  replace qP := hide qP
  replace hX := hide hX
  go_enter Tryz.func15, Tryz.ntmps15
  go_upto_region 1 with fail
  apply wp_region_lit
  iterate 1 (refine wpList_plain rfl fun K hK => ?_; go_simp; refine hK _ _ ?_; clear hK K)
  refine wpList_plain rfl fun K hK => ?_
  go_simp
  refine (qP.out).mono ?_
  rintro e w2 ⟨hb2, hend⟩
  clear qP
  have hz2 := hb2.size
  rcases hend with ⟨p, hp, rfl⟩ | ⟨c, v, hp, rfl, hv, hs⟩
  · have hX1 := hX.out
    rw [hp] at hX1
    dsimp only at hX1
    subst hX1
    have hne := confF_err hp
    clear hX hp
    go_simp
    refine hK _ _ ?_
    clear hK K
    iterate 4 (refine wpList_plain rfl fun K hK => ?_; go_simp; refine hK _ _ ?_; clear hK K)
    refine wpl_new rfl rfl 34 _ (alloc_cf _ rfl) 6 rfl (.tmp 14) rfl _ (fun _ => rfl) (fun _ => rfl) rfl (by kernel_rfl) (cf_one _ _ _ rfl rfl rfl _ _ _ _ _ _ _ _) ?_
    intro w4 hg4 hb4 hz4
    iterate 2 (refine wpList_plain rfl fun K hK => ?_; go_simp; refine hK _ _ ?_; clear hK K)
    refine wpList_nil ?_
    go_simp
    have hne2 : (p.2 != 0) = true := by rw [bne_iff_ne]; exact hne
    have hB := hb2.trans (hb4.mono hz2)
    clear hg4 hb4 hz4 hb2
    replace hB := hide hB
    go_wp2_with fail
    go_ret2
    exact ⟨rfl, h.out.same hB.out⟩
  · obtain ⟨A1, A2, A3, k1, k2, k3, rfl, hR, j1, j2, j3⟩ := cfgV_open hv
    have hg := confF_good hp
    have hX1 := hX.out
    rw [hp] at hX1
    dsimp only at hX1
    clear hX hp
    replace hX1 := hide hX1
    replace hg := hide hg
    replace hv := hide hv
    go_simp
    refine hK _ _ ?_
    clear hK K
    iterate 4 (refine wpList_plain rfl fun K hK => ?_; go_simp; refine hK _ _ ?_; clear hK K)
    refine wpl_new rfl rfl 34 _ (alloc_cf _ rfl) 6 rfl (.tmp 14) rfl _ (fun _ => rfl) (fun _ => rfl) rfl (by kernel_rfl) (cf_one _ _ _ rfl rfl rfl _ _ _ _ _ _ _ _) ?_
    intro w4 hg4 hb4 hz4
    iterate 2 (refine wpList_plain rfl fun K hK => ?_; go_simp; refine hK _ _ ?_; clear hK K)
    refine wpList_nil ?_
    go_simp
    have hgo := hg.out
    have qv := vnew_any c hs (fun y hy => Nat.le_trans (hgo.nodes y hy).2 (Nat.le_trans ht (by decide))) hgo.views w4 A1 A2 A3 k1 k2 k3 j1 j2 j3 (hR.on hb4)
    unfold VNewEnd at qv
    have hB4 : Below w.heap.size w w4 := hb2.trans (hb4.mono hz2)
    have hv4 := hv.out.on hb4
    clear hgo hb2 hb4 hR j1 j2 j3 hs hg hv
    replace hB4 := hide hB4
    replace qv := hide qv
    replace hg4 := hide hg4
    replace hv4 := hide hv4
    go_upto_region 4 with fail
    apply wp_region_lit
    refine wpl_ld rfl 34 (.tmp 6) rfl w2.heap.size rfl (cfC c (.slice A1 c.nodes.length k1) (.slice A2 c.vips.length k2) (.slice A3 c.views.length k3)) _ hg4.out Tryz.underlying34 rfl (by kernel_rfl) ?_
    refine wpList_plain rfl fun K hK => ?_
    go_simp
    refine (qv.out).mono ?_
    rintro e w5 ⟨hb5, hend⟩
    have hg5 := blk_below hb5 hz4 hg4.out
    have hv5 := hv4.out.on hb5
    clear qv hg4 hv4
    have hB5 := hB4.out.trans (hb5.mono (by have := hB4.out.size; omega))
    obtain ⟨V, hV⟩ : ∃ V, validF c = V := ⟨_, rfl⟩
    rw [hV] at hend
    have hX2 := hX1.out
    rw [hV] at hX2
    clear hX1 hb5
    rcases hend with ⟨hne, rfl⟩ | ⟨hv0, x, rfl, -⟩
    · rw [if_pos hne] at hX2
      subst hX2
      have hne2 : ((V : Int) != 0) = true := by rw [bne_iff_ne]; omega
      clear hV hg5 hv5
      replace hB5 := hide hB5
      go_simp
      refine hK _ _ ?_
      clear hK K
      iterate 5 (refine wpList_plain rfl fun K hK => ?_; go_simp; refine hK _ _ ?_; clear hK K)
      refine wpList_nil ?_
      go_simp
      go_wp2_with fail
      go_ret2
      exact ⟨rfl, h.out.same hB5.out⟩
    · rw [if_neg (fun h => h hv0)] at hX2
      subst hX2
      subst hv0
      have h5 := h.out.below hB5
      have hrow : ∀ w9, KeptS w5.heap.size (fun k => k = p) w5 w9 → PlR w9 base (.slice A1 c.nodes.length k1) (.slice A2 c.vips.length k2) (.slice A3 c.views.length k3) (.slice none 0 0) wv { P with c := c, has := true, sets := [], gen := P.gen + 1 } := by
        intro w9 hk
        have hwz : base ≤ w.heap.size := by have := h.out.hb; omega
        exact ⟨row_weaken (row_keptP hv5.nodes hk (fun k e => by subst e; exact row_ty hv5.nodes h5.blk (by decide))) hwz, row_weaken (row_keptP hv5.vips hk (fun k e => by subst e; exact row_ty hv5.vips h5.blk (by decide))) hwz, row_weaken (row_keptP hv5.views hk (fun k e => by subst e; exact row_ty hv5.views h5.blk (by decide))) hwz, World.ownsRow_nil _ _ _ _, row_keptP h5.rows.wait hk (fun k e => by subst e; exact row_ty h5.rows.wait h5.blk (by decide))⟩
      have hb5 := h5.blk
      clear hv5 h5
      replace hrow := hide hrow
      replace hb5 := hide hb5
      replace hB5 := hide hB5
      replace hg5 := hide hg5
      go_simp
      refine hK _ _ ?_
      clear hK K
      iterate 5 (refine wpList_plain rfl fun K hK => ?_; go_simp; refine hK _ _ ?_; clear hK K)
      refine wpList_nil ?_
      go_simp
      go_upto_region 7 with fail
      apply wp_region_lit
      iterate 1 (refine wpList_plain rfl fun K hK => ?_; go_simp; refine hK _ _ ?_; clear hK K)
      refine wpl_ld rfl 34 (.tmp 6) rfl w2.heap.size rfl (cfC c (.slice A1 c.nodes.length k1) (.slice A2 c.vips.length k2) (.slice A3 c.views.length k3)) _ hg5.out Tryz.underlying34 rfl (by kernel_rfl) ?_
      iterate 2 (refine wpList_plain rfl fun K hK => ?_; go_simp; refine hK _ _ ?_; clear hK K)
      refine wpl_st rfl 34 (.tmp 32) (.tmp 30) rfl p 0 rfl (cfC c (.slice A1 c.nodes.length k1) (.slice A2 c.vips.length k2) (.slice A3 c.views.length k3)) rfl hb5.out (by show 0 + 11 ≤ 18; decide) (by kernel_rfl) (cf_one _ _ _ rfl rfl rfl _ _ _ _ _ _ _ _) fun w6 hg6 g6 => ?_
      rw [putA_plA] at hg6
      refine wpList_nil ?_
      go_simp
      have hk6 : KeptS w5.heap.size (fun k => k = p) w5 w6 := ⟨g6.os, g6.tape, g6.output, g6.size, fun k hk hne => g6.block k hk (fun e => hne (Option.some.inj e))⟩
      obtain ⟨w7, hw7⟩ : ∃ w7, w6.setCell ⟨p, 11, none⟩ (.bool true) = w7 := ⟨_, rfl⟩
      obtain ⟨hg7, hk7⟩ := keptS_cell hg6 hw7
      obtain ⟨w8, hw8⟩ : ∃ w8, w7.setCell ⟨p, 13, none⟩ (.slice none 0 0) = w8 := ⟨_, rfl⟩
      obtain ⟨hg8, hk8⟩ := keptS_cell hg7 hw8
      obtain ⟨w9, hw9⟩ : ∃ w9, w8.setCell ⟨p, 12, none⟩ (.int .i64 ((P.gen : Int) + 1)) = w9 := ⟨_, rfl⟩
      obtain ⟨hg9, hk9⟩ := keptS_cell hg8 hw9
      have c11 := blk_cell hg6 11
      have f11 := blk_free hg6 11
      have c13 := blk_cell hg7 13
      have f13 := blk_free hg7 13
      have c12 := blk_cell hg8 12
      have f12 := blk_free hg8 12
      unfold plA cfC at c11 c13 c12
      have hkk := keptS_trans _ _ _ _ _ (keptS_trans _ _ _ _ _ (keptS_trans _ _ _ _ _ hk6 (keptS_less hk7 hk6.size (fun k _ e => e))) (keptS_less hk8 (by have := hk6.size; have := hk7.size; omega) (fun k _ e => e))) (keptS_less hk9 (by have := hk6.size; have := hk7.size; have := hk8.size; omega) (fun k _ e => e))
      have hfin : PlTo w w9 base p wv { P with c := c, has := true, sets := [], gen := P.gen + 1 } := ⟨_, _, _, _, ⟨hg9, hrow.out w9 hkk, h.out.hb⟩, keptS_trans _ _ _ _ _ (keptS_of_below hB5.out (Nat.le_refl _)) (keptS_less hkk hB5.out.size (fun k _ e => e))⟩
      have wg : IntKind.i64.wrap ((P.gen : Int) + 1) = (P.gen : Int) + 1 := wraps62 _ (by omega) (by unfold big at hgen; omega)
      clear hg6 hg7 hg8 hg9 hk6 hk7 hk8 hk9 hkk g6 hrow hb5 hg5 hB5 hV
      replace hfin := hide hfin
      go_wp2_with fail
      go_ret2
      exact ⟨rfl, hfin.out⟩
end Store20
end Go.Proofs.YtcpokkkdmenmgaaGreatDoor
/- store, the law: the document's store: weight. Condition: fewer than 2^40 changes. -/
namespace Go.Proofs.YtcpokkkdmenmgaaGreatDoor
open Go.RowKit Go.ChangeShapes Go.WideShapes Go.ChangeAt Go.Deep
namespace Store20
open Conf18 (Nd Vp Vw Cfg zA MapI lt_of_blk cfC CfgR CfgV ndC vpC vwC row_not_x row_set info_nd ndC_one nd_one eqw)
open Addr05 (Adr MaxAt)
open Val19
theorem info_se : (Tryz.prog.info? 76).map (fun i => (i.zero, i.size, i.bytes)) = some (some (.agg #[.string ⟨#[]⟩, .int .i64 0]), 2, 24) := by kernel_rfl
theorem seC_one (c : List UInt8 × Nat) : ∀ u ∈ seC c, u.oneCell' = true := by
  intro u hu
  simp only [seC, List.mem_cons, List.not_mem_nil, or_false] at hu
  rcases hu with rfl | rfl <;> rfl
theorem flat_put {α : Type} (f : α → List Value) (size : Nat) (hf : ∀ x, (f x).length = size) : ∀ (l : List α) (i : Nat) (y : α), i < l.length → ((l.set i y).map f).flatten = (l.map f).flatten.take (i * size) ++ (f y ++ (l.map f).flatten.drop (i * size + size))
  | [], i, y, h => by simp at h
  | a :: l, 0, y, h => by
    rw [List.set_cons_zero, List.map_cons, List.flatten_cons, List.map_cons, List.flatten_cons, Nat.zero_mul, List.take_zero, List.nil_append, Nat.zero_add, List.drop_append, hf, Nat.sub_self, List.drop_zero, List.drop_of_length_le (by rw [hf]; exact Nat.le_refl _), List.nil_append]
  | a :: l, i + 1, y, h => by
    have ih := flat_put f size hf l i y (by simpa using h)
    have e : (i + 1) * size = size + i * size := by rw [Nat.succ_mul]; omega
    rw [List.set_cons_succ, List.map_cons, List.flatten_cons, List.map_cons, List.flatten_cons, ih, e, List.take_append, List.drop_append, hf, List.take_of_length_le (l := f a) (by rw [hf]; omega), List.drop_of_length_le (l := f a) (by rw [hf]; omega), List.nil_append, List.append_assoc, Nat.add_sub_cancel_left, show size + i * size + size - size = i * size + size by omega]
theorem row_putS {w : World} {base size : Nat} {e : TypeId} {A : Option Addr} {n k : Nat} {xs : List Value} (h : w.ownsRow base e size (.slice A n k) n xs) (h0 : 0 < n) : ∃ g cur, A = some ⟨g, 0, none⟩ ∧ base ≤ g ∧ w.heap[g]? = some (.cells cur e (0, 0)) ∧ n * size ≤ cur.size ∧
    ∀ (w' : World) (o : Nat) (vs : List Value), o + vs.length ≤ n * size → w'.heap[g]? = some (.cells (putA cur o vs) e (0, 0)) → w'.ownsRow base e size (.slice A n k) n (xs.take o ++ (vs ++ xs.drop (o + vs.length))) := by
  obtain ⟨hl, ⟨h1, h2⟩ | ⟨g, cap, cur, hv, hg, hh, h1, h2, h3, h4⟩⟩ := h
  · omega
  · cases hv
    have hle : n * size ≤ k * size := Nat.mul_le_mul_right _ h1
    refine ⟨g, cur, rfl, hg, hh, by omega, fun w' o vs ho hg' => ⟨?_, .inr ⟨g, k, _, rfl, hg, hg', h1, h2, ?_, ?_⟩⟩⟩
    · simp [List.length_take, List.length_drop, hl]; omega
    · rw [putA_size _ _ _ (by omega)]; exact h3
    · unfold putA
      simp only []
      rw [List.take_append, List.take_append]
      have e1 : (cur.toList.take o).length = o := by rw [List.length_take, Array.length_toList]; omega
      rw [e1, ← h4]
      rw [List.take_of_length_le (l := cur.toList.take o) (by omega), List.take_of_length_le (l := vs) (by omega)]
      rw [List.take_take, Nat.min_eq_left (by omega)]
      congr 2
      rw [List.drop_take]
      congr 1
      omega
set_option maxRecDepth 20000 in
set_option maxHeartbeats 16000000 in
theorem pweight_any {base p : Nat} {a1 a2 a3 sv wv : Value} (P : Pl) (y : List UInt8) (x : Int) (w : World) (h : PlC w base p a1 a2 a3 sv wv P) (hgen : P.gen < big) (hn : P.sets.length < big) (hnl : P.c.nodes.length ≤ 1024) (hv : P.has = true → Tree16.treeF P.c.nodes = none) :
    Calls Tryz.prog 17 #[.pointer (some ⟨p, 0, none⟩), .string (str y), .int .i64 x] w fun e w' => e = .returned (.int .i64 ((weightP P y x).2 : Int)) ∧ PlTo w w' base p wv (weightP P y x).1 := by
  obtain ⟨X, hX⟩ : ∃ X, weightP P y x = X := ⟨_, rfl⟩
  rw [hX]
  unfold weightP at hX
  have hz := h.lt
  have c11 := blk_cell h.blk 11
  unfold plA cfC at c11
  by_cases hh : P.has = true
  case neg =>
    have hh2 : P.has = false := by simpa using hh
    rw [if_pos hh2] at hX
    subst hX
    rw [hh2] at c11
    clear hv
    replace h := hide h
    go_enter Tryz.func17, Tryz.ntmps17
    go_wp2_with fail
    go_ret
    exact ⟨rfl, h.out.same (Below.refl _ _)⟩
  rw [if_neg (by rw [hh]; decide)] at hX
  rw [hh] at c11
  by_cases hx1 : x < 0
  · rw [if_pos (.inl hx1)] at hX
    subst hX
    clear hv
    replace h := hide h
    go_enter Tryz.func17, Tryz.ntmps17
    go_wp2_with fail
    go_ret
    exact ⟨rfl, h.out.same (Below.refl _ _)⟩
  by_cases hx2 : 65535 < x
  · rw [if_pos (.inr hx2)] at hX
    subst hX
    clear hv
    replace h := hide h
    go_enter Tryz.func17, Tryz.ntmps17
    go_wp2_with fail
    go_ret
    exact ⟨rfl, h.out.same (Below.refl _ _)⟩
  rw [if_neg (by omega)] at hX
  have htr := hv hh
  obtain ⟨xn, rfl⟩ : ∃ xn : Nat, x = (xn : Int) := ⟨x.toNat, by omega⟩
  obtain ⟨A, cap, ha1, b1, b2, hI⟩ := own_isv h.rows.nodes
  subst ha1
  obtain ⟨As, cs, has, bs1, bs2, -⟩ := own_isv h.rows.sets
  subst has
  have c0 := blk_cell h.blk 0
  unfold plA cfC at c0
  obtain ⟨L, hL⟩ : ∃ L, P.c.nodes.length = L := ⟨_, rfl⟩
  rw [hL] at c0 b1 hnl
  have hIT : IsT ndC 7 w w.heap.size A L P.c.nodes := ⟨hL, by rw [← hL]; exact hI⟩
  clear hI hv
  replace h := hide h
  replace hX := hide hX
  replace htr := hide htr
  replace hIT := hide hIT
  replace hL := hide hL
  go_enter Tryz.func17, Tryz.ntmps17
  go_wp2_with fail
  go_loopw [7] (fun iv wr => ∃ i : Nat, i ≤ L ∧ iv = .int .i64 (i : Int) ∧ (∀ (j : Nat) (nd : Nd), j < i → P.c.nodes[j]? = some nd → ¬(nd.name = y ∧ nd.kind = 4)) ∧ w = wr) (fun iv _ => L - (intOf iv).toNat)
  case atStart => exact ⟨0, by omega, rfl, fun j nd hj => by omega, rfl⟩
  case round =>
    obtain ⟨i, hi, rfl, hno, rfl⟩ := hrel
    by_cases hin : i < L
    · have hlt : (i : Int) < (L : Int) := by omega
      obtain ⟨b, off, nd, rfl, hbk, hni, hcell⟩ := IsT.at (f := ndC) (size := 7) (fun _ => rfl) (by decide) hIT.out hin
      have wi1 : IntKind.i64.wrap ((i : Int) + 1) = ((i + 1 : Nat) : Int) := by rw [wraps62 _ (by omega) (by omega)]; omega
      have hhit := fun h3 h4 => hostOf_hit htr.out (s := y) hni h3 h4
      have hnext : ¬(nd.name = y ∧ nd.kind = 4) → ∀ (j : Nat) (nd' : Nd), j < i + 1 → P.c.nodes[j]? = some nd' → ¬(nd'.name = y ∧ nd'.kind = 4) := by
        intro hb j nd' hj hd
        by_cases hji : j = i
        · subst hji
          obtain rfl := Option.some.inj (hni.symm.trans hd)
          exact hb
        · exact hno j nd' (by omega) hd
      have te := eqw nd.name y
      have hst : (str y).toList = y := by simp [str, ByteArray.toList_eq]
      rw [← hst] at te
      have te2 : ((str nd.name).toList == (str y).toList) = decide (nd.name = y) := by
        rw [te]
        congr 1
        rw [hst]
      clear te hst hno
      obtain ⟨nm, kd, ab, wt, ⟨v6, ah, al⟩⟩ := nd
      dsimp only at te2 hhit hnext
      have y0 : w.cell? ⟨b, off + i * 7, none⟩ = some (.string (str nm)) := hcell 0 _ rfl
      have y1 : w.cell? ⟨b, off + i * 7 + 1, none⟩ = some (.int .i64 kd) := hcell 1 _ rfl
      obtain ⟨bn, hbn⟩ : ∃ bn, decide (nm = y) = bn := ⟨_, rfl⟩
      rw [hbn] at te2
      have te3 : ((str nm).toList != (str y).toList) = !bn := by show (!((str nm).toList == (str y).toList)) = !bn; rw [te2]
      clear hcell
      replace hhit := hide hhit
      replace hnext := hide hnext
      replace hni := hide hni
      cases bn
      · have hn2 := hnext.out (fun h => absurd h.1 (of_decide_eq_false hbn))
        clear hhit hnext
        replace hn2 := hide hn2
        go_wp2_with fail
        exact ⟨⟨i + 1, by omega, by first | rfl | go_num, hn2.out, by first | rfl | trivial⟩, by simp only [intOf]; omega⟩
      · by_cases hk4 : kd = 4
        case neg =>
          have hn2 := hnext.out (fun h => hk4 h.2)
          have hne : (kd != 4) = true := by rw [bne_iff_ne]; exact hk4
          clear hhit hnext
          replace hn2 := hide hn2
          go_wp2_with fail
          exact ⟨⟨i + 1, by omega, by first | rfl | go_num, hn2.out, by first | rfl | trivial⟩, by simp only [intOf]; omega⟩
        case pos =>
          subst hk4
          have hho := hhit.out (of_decide_eq_true hbn) rfl
          have hX1 := hX.out
          rw [hho] at hX1
          dsimp only at hX1
          subst hX1
          clear hX hhit hnext hho
          go_upto_region 9 with fail
          clear te2 te3 y0 y1
          apply wp_region_lit
          refine wpList_plain rfl fun K hK => ?_
          go_simp
          refine hK _ _ ?_
          clear hK K
          obtain ⟨w1, hw1⟩ : ∃ w1, w.alloc (.cells #[] 68) = w1 := ⟨_, rfl⟩
          have hb1 : Below w.heap.size w w1 := hw1 ▸ (Below.refl _ _).alloc (Nat.le_refl _) _
          have hg1 : w1.heap[w.heap.size]? = some (.cells #[] 68 (0, 0)) := hw1 ▸ blk_new _ _ _
          rw [hw1]
          obtain ⟨i1, hi1, hy1, hsz1, hbt1⟩ := info_parts info_nd
          have h1 := h.out.below hb1
          have k0 := blk_cell h1.blk 0
          unfold plA cfC at k0
          rw [hL.out] at k0
          iterate 5 (refine wpList_plain rfl fun K hK => ?_; go_simp; refine hK _ _ ?_; clear hK K)
          clear k0 c0 c11
          have hown0 : w1.ownsRow w.heap.size 68 7 (.slice (some ⟨w.heap.size, 0, none⟩) 0 0) 0 [] := ⟨rfl, .inr ⟨w.heap.size, 0, #[], rfl, Nat.le_refl _, hg1, Nat.le_refl _, Nat.zero_le _, rfl, rfl⟩⟩
          refine wpl_append _ rfl (.tmp 54) (.tmp 59) 26 rfl w.heap.size 68 i1 _ 7 64 Tryz.underlying26 hi1 hy1 hsz1 hbt1 rfl (by decide) (.slice (some ⟨w.heap.size, 0, none⟩) 0 0) 0 [] rfl hown0 w.heap.size (some ⟨b, off, none⟩) L cap _ rfl (hIT.out.below hb1).2 (flat_one ndC ndC_one _) (by unfold maxLen; omega) (by omega) hb1.size fun v w2 q1 q2 q3 => ?_
          rw [Nat.zero_add, List.nil_append] at q1
          obtain ⟨B1, m1, hvv, l1, l2, hI2⟩ := own_isv q1
          subst hvv
          have hb2 : Below w.heap.size w w2 := hb1.trans ⟨q2.os, q2.tape, q2.output, q2.size, fun k hk => q2.block k (by have := hb1.size; omega) (by intro e; have := Option.some.inj e; dsimp only at this; omega)⟩
          obtain ⟨g, cur, hB1, hgw, hgb, hgi, hput⟩ := row_putS q1 (by omega)
          subst hB1
          obtain ⟨b3, off3, x3, e3, -, hx3, hcell3⟩ := IsT.at (f := ndC) (size := 7) (fun _ => rfl) (by decide) (⟨hL.out, hI2⟩ : IsT ndC 7 w2 w2.heap.size (some ⟨g, 0, none⟩) L P.c.nodes) hin
          cases e3
          obtain rfl := Option.some.inj (hx3.symm.trans hni.out)
          have y0 : w2.cell? ⟨g, i * 7, none⟩ = some (.string (str nm)) := by have := hcell3 0 _ rfl; rw [Nat.zero_add] at this; exact this
          have y1 : w2.cell? ⟨g, i * 7 + 1, none⟩ = some (.int .i64 4) := by have := hcell3 1 _ rfl; rw [Nat.zero_add] at this; exact this
          have y2 : w2.cell? ⟨g, i * 7 + 2, none⟩ = some (.int .i64 ab) := by have := hcell3 2 _ rfl; rw [Nat.zero_add] at this; exact this
          have y3 : w2.cell? ⟨g, i * 7 + 3, none⟩ = some (.int .i64 wt) := by have := hcell3 3 _ rfl; rw [Nat.zero_add] at this; exact this
          have y4 : w2.cell? ⟨g, i * 7 + 4, none⟩ = some (.bool v6) := by have := hcell3 4 _ rfl; rw [Nat.zero_add] at this; exact this
          have y5 : w2.cell? ⟨g, i * 7 + 5, none⟩ = some (.int .u64 (ah : Int)) := by have := hcell3 5 _ rfl; rw [Nat.zero_add] at this; exact this
          have y6 : w2.cell? ⟨g, i * 7 + 6, none⟩ = some (.int .u64 (al : Int)) := by have := hcell3 6 _ rfl; rw [Nat.zero_add] at this; exact this
          have h2 := h.out.below hb2
          clear q1 q2 q3 hI2 hx3 hcell3 hown0 hg1 hb1 h1 hi1 hy1 hsz1 hbt1 hw1
          replace hgb := hide hgb
          replace hput := hide hput
          replace hb2 := hide hb2
          replace h2 := hide h2
          iterate 1 (refine wpList_plain rfl fun K hK => ?_; go_simp; refine hK _ _ ?_; clear hK K)
          refine wpList_nil ?_
          go_simp
          go_upto_region 10 with fail
          apply wp_region_lit
          iterate 4 (refine wpList_plain rfl fun K hK => ?_; go_simp; refine hK _ _ ?_; clear hK K)
          refine wpl_new rfl rfl 68 _ (Conf18.alloc_nd _ rfl) 9 rfl (.tmp 64) rfl _ (fun _ => rfl) (fun _ => rfl) rfl (by kernel_rfl) (Conf18.nd_one _ _ _ _ _ _ _) ?_
          intro w4 hg4 hb4 hz4
          refine wpList_nil ?_
          go_simp
          clear y0 y1 y2 y3 y4 y5 y6
          have hz2 := hb2.out.size
          have hgl := lt_of_blk hgb.out
          have hg3 := blk_below hb4 hgl hgb.out
          have hB4 := hb2.out.trans (hb4.mono hz2)
          obtain ⟨z, hzz⟩ : ∃ z, w2.heap.size = z := ⟨_, rfl⟩
          rw [hzz] at hg4 hz4 hgl ⊢
          have hc3 := blk_cell hg4 3
          have hf3 := blk_free hg4 3
          obtain ⟨w5, hw5⟩ : ∃ w5, w4.setCell ⟨z, 3, none⟩ (.int .i64 (xn : Int)) = w5 := ⟨_, rfl⟩
          obtain ⟨hg5, hk5⟩ := keptS_cell hg4 hw5
          replace hg5 : w5.heap[z]? = some (.cells #[.string (str nm), .int .i64 4, .int .i64 ab, .int .i64 (xn : Int), .bool v6, .int .u64 (ah : Int), .int .u64 (al : Int)] 68 (0, 0)) := hg5
          have hgg5 := (hk5.block g (lt_of_blk hg3) (by omega)).trans hg3
          have hB5 := below_step hB4 hk5 (by have := hB4.size; omega) (fun k hk e => by omega)
          clear hg3 hg4 hb4 hB4 hk5 hb2 hzz h2
          replace hg5 := hide hg5
          replace hgg5 := hide hgg5
          replace hB5 := hide hB5
          go_upto_region 12 with fail
          clear hc3 hf3 hw5
          apply wp_region_lit
          iterate 2 (refine wpList_plain rfl fun K hK => ?_; go_simp; refine hK _ _ ?_; clear hK K)
          refine wpl_ld rfl 68 (.tmp 9) rfl z rfl (#[.string (str nm), .int .i64 4, .int .i64 ab, .int .i64 (xn : Int), .bool v6, .int .u64 (ah : Int), .int .u64 (al : Int)]) _ hg5.out Tryz.underlying68 rfl (by kernel_rfl) ?_
          iterate 1 (refine wpList_plain rfl fun K hK => ?_; go_simp; refine hK _ _ ?_; clear hK K)
          refine wpl_st rfl 68 (.tmp 70) (.tmp 69) rfl g (i * 7) rfl (#[.string (str nm), .int .i64 4, .int .i64 ab, .int .i64 (xn : Int), .bool v6, .int .u64 (ah : Int), .int .u64 (al : Int)]) rfl hgg5.out (by show i * 7 + 7 ≤ cur.size; omega) (by kernel_rfl) (Conf18.nd_one _ _ _ _ _ _ _) fun w6 hg6 g6 => ?_
          refine wpList_nil ?_
          go_simp
          have hB6 : Below w.heap.size w w6 := below_grown g6 hB5.out.size hgw |> hB5.out.trans
          have hlen : (wtN P.c.nodes i (xn : Int)).length = L := by rw [wtN_len]; exact hL.out
          have hrow6 := hput.out w6 (i * 7) [.string (str nm), .int .i64 4, .int .i64 ab, .int .i64 (xn : Int), .bool v6, .int .u64 (ah : Int), .int .u64 (al : Int)] (by show i * 7 + 7 ≤ L * 7; omega) hg6
          have efl : ((wtN P.c.nodes i (xn : Int)).map ndC).flatten = (P.c.nodes.map ndC).flatten.take (i * 7) ++ ([.string (str nm), .int .i64 4, .int .i64 ab, .int .i64 (xn : Int), .bool v6, .int .u64 (ah : Int), .int .u64 (al : Int)] ++ (P.c.nodes.map ndC).flatten.drop (i * 7 + 7)) := by
            have := flat_put ndC 7 (fun _ => rfl) P.c.nodes i ⟨nm, 4, ab, (xn : Int), ⟨v6, ah, al⟩⟩ (by rw [hL.out]; exact hin)
            unfold wtN
            rw [hni.out]
            exact this
          replace hrow6 : w6.ownsRow w.heap.size 68 7 (.slice (some ⟨g, 0, none⟩) L m1) L ((wtN P.c.nodes i (xn : Int)).map ndC).flatten := by rw [efl]; exact hrow6
          have h6 := h.out.below hB6
          obtain ⟨w7, hw7⟩ : ∃ w7, w6.setCell ⟨p, 0, none⟩ (.slice (some ⟨g, 0, none⟩) L m1) = w7 := ⟨_, rfl⟩
          obtain ⟨hg7, hk7⟩ := keptS_cell h6.blk hw7
          have c0 := blk_cell h6.blk 0
          have f0 := blk_free h6.blk 0
          unfold plA cfC at c0
          have hr7 := h6.own hk7
          have hbw : base ≤ w.heap.size := by have := h.out.hb; omega
          have h7 : PlC w7 base p (.slice (some ⟨g, 0, none⟩) L m1) a2 a3 (.slice As P.sets.length cs) wv { P with c := setW P.c i (xn : Int) } :=
            ⟨hg7, ⟨row_weaken (by show w7.ownsRow _ _ _ _ (wtN P.c.nodes i (xn : Int)).length _; rw [hlen]; exact row_keptP hrow6 hk7 (fun k e => by subst e; exact row_ty hrow6 h6.blk (by decide))) hbw, hr7.vips, hr7.views, hr7.sets, hr7.wait⟩, h.out.hb⟩
          have hkk7 : KeptS w.heap.size (fun k => k = p) w w7 := keptS_trans _ _ _ _ _ (keptS_of_below hB6 (Nat.le_refl _)) (keptS_less hk7 hB6.size (fun k _ e => e))
          clear hg6 g6 hrow6 efl h6 hg7 hk7 hr7 hg5 hgg5 hB5 hput hgb hgi
          replace h7 := hide h7
          replace hkk7 := hide hkk7
          replace hB6 := hide hB6
          go_upto_region 14 with fail
          clear c0 f0 hw7
          have hz7 := h7.out.lt
          have hw7z := hkk7.out.size
          apply wp_region_lit
          iterate 1 (refine wpList_plain rfl fun K hK => ?_; go_simp; refine hK _ _ ?_; clear hK K)
          refine wpList_plain rfl fun K hK => ?_
          go_simp
          refine hK _ _ ?_
          clear hK K
          obtain ⟨w8, hw8⟩ : ∃ w8, w7.alloc (.cells #[] 76) = w8 := ⟨_, rfl⟩
          have hb8 : Below w7.heap.size w7 w8 := hw8 ▸ (Below.refl _ _).alloc (Nat.le_refl _) _
          have hg8 : w8.heap[w7.heap.size]? = some (.cells #[] 76 (0, 0)) := hw8 ▸ blk_new _ _ _
          rw [hw8]
          have h8 := h7.out.below hb8
          obtain ⟨As2, cs2, eS, -, -, hIS⟩ := own_isv h7.out.rows.sets
          cases eS
          have k13 := blk_cell h8.blk 13
          unfold plA cfC at k13
          obtain ⟨z8, hz8⟩ : ∃ z, w7.heap.size = z := ⟨_, rfl⟩
          rw [hz8] at hg8 hz7 hw7z ⊢
          iterate 4 (refine wpList_plain rfl fun K hK => ?_; go_simp; refine hK _ _ ?_; clear hK K)
          clear k13
          obtain ⟨i2, hi2, hy2, hsz2, hbt2⟩ := info_parts info_se
          have hown8 : w8.ownsRow w.heap.size 76 2 (.slice (some ⟨z8, 0, none⟩) 0 0) 0 [] := ⟨rfl, .inr ⟨z8, 0, #[], rfl, hw7z, hg8, Nat.le_refl _, Nat.zero_le _, rfl, rfl⟩⟩
          refine wpl_append _ rfl (.tmp 77) (.tmp 81) 35 rfl w.heap.size 76 i2 _ 2 24 Tryz.underlying35 hi2 hy2 hsz2 hbt2 rfl (by decide) (.slice (some ⟨z8, 0, none⟩) 0 0) 0 [] rfl hown8 w8.heap.size As P.sets.length cs _ rfl (hIS.on hb8) (flat_one seC seC_one _) (by unfold maxLen; unfold big at hn; omega) (by unfold big at hn; omega) (by have := hb8.size; omega) fun v9 w9 q1 q2 q3 => ?_
          rw [Nat.zero_add, List.nil_append] at q1
          have hb9 : Below z8 w7 w9 := (hz8 ▸ hb8).trans ⟨q2.os, q2.tape, q2.output, q2.size, fun k hk => q2.block k (by have := hb8.size; omega) (by intro e; have := Option.some.inj e; dsimp only at this; omega)⟩
          have hv9 : ∀ k, v9.ownBlock = some k → z8 ≤ k := fun k hk => by
            rcases q3 with e | e
            · rw [e] at hk; have := Option.some.inj hk; dsimp only at this; omega
            · rw [e] at hk; have := Option.some.inj hk; have := hb8.size; omega
          clear q2 q3 hown8 hg8 hIS hi2 hy2 hsz2 hbt2 hw8 h8 hb8
          replace hb9 := hide hb9
          iterate 3 (refine wpList_plain rfl fun K hK => ?_; go_simp; refine hK _ _ ?_; clear hK K)
          refine wpList_plain rfl fun K hK => ?_
          go_simp
          refine hK _ _ ?_
          clear hK K
          obtain ⟨w10, hw10⟩ : ∃ w10, w9.alloc (.cells #[.string (str y), .int .i64 (xn : Int)] 76) = w10 := ⟨_, rfl⟩
          have hb10 : Below w9.heap.size w9 w10 := hw10 ▸ (Below.refl _ _).alloc (Nat.le_refl _) _
          have hg10 : w10.heap[w9.heap.size]? = some (.cells (seC (y, xn)).toArray 76 (0, 0)) := hw10 ▸ blk_new _ _ _
          rw [hw10]
          have q10 := row_on q1 hb10
          have hz9 := hb9.out.size
          refine wpList_plain rfl fun K hK => ?_
          refine wp_app_c (T := 76) Tryz.underlying35 info_se rfl (by decide) (by decide) (.tmp 82) (.tmp 86) rfl w.heap.size v9 P.sets.length (P.sets.map seC).flatten (seC (y, xn)) w9.heap.size rfl rfl q10 hg10 rfl (seC_one _) (by have := hb10.size; omega) (by unfold big at hn; omega) fun v11 w11 q4 q5 => hK _ _ ?_
          clear hK K
          have hb11 : Below z8 w7 w11 := (hb9.out.trans (hb10.mono (by omega))).trans ⟨q5.grown.os, q5.grown.tape, q5.grown.output, q5.grown.size, fun k hk => q5.grown.block k (by have := hb10.size; omega) (fun e => by have := hv9 k e.symm; omega)⟩
          obtain ⟨A11, c11, hv11, -, -, -⟩ := own_isv q4
          subst hv11
          have h11 := h7.out.below (hz8 ▸ hb11)
          obtain ⟨w12, hw12⟩ : ∃ w12, w11.setCell ⟨p, 13, none⟩ (.slice A11 (P.sets.length + 1) c11) = w12 := ⟨_, rfl⟩
          obtain ⟨hg12, hk12⟩ := keptS_cell h11.blk hw12
          have hr12 := h11.own hk12
          have c13 := blk_cell h11.blk 13
          have f13 := blk_free h11.blk 13
          unfold plA cfC at c13
          have h12 : PlC w12 base p (.slice (some ⟨g, 0, none⟩) L m1) a2 a3 (.slice A11 (P.sets.length + 1) c11) wv { P with c := setW P.c i (xn : Int), sets := P.sets ++ [(y, xn)] } :=
            ⟨hg12, ⟨hr12.nodes, hr12.vips, hr12.views, by
              show w12.ownsRow _ _ _ _ (P.sets ++ [(y, xn)]).length ((P.sets ++ [(y, xn)]).map seC).flatten
              rw [List.length_append, List.length_singleton, List.map_append, List.flatten_append]
              have := row_weaken (row_keptP q4 hk12 (fun k e => by subst e; exact row_ty q4 h11.blk (by decide))) hbw
              simpa using this, hr12.wait⟩, h.out.hb⟩
          have hkk12 : KeptS w.heap.size (fun k => k = p) w w12 := keptS_trans _ _ _ _ _ hkk7.out (keptS_trans _ _ _ _ _ (keptS_of_below hb11 hw7z) (keptS_less hk12 (by have := hb11.size; omega) (fun k _ e => e)))
          obtain ⟨w13, hw13⟩ : ∃ w13, w12.setCell ⟨p, 12, none⟩ (.int .i64 ((P.gen : Int) + 1)) = w13 := ⟨_, rfl⟩
          obtain ⟨hg13, hk13⟩ := keptS_cell h12.blk hw13
          have c12 := blk_cell h12.blk 12
          have f12 := blk_free h12.blk 12
          unfold plA cfC at c12
          have hr13 := h12.own hk13
          have hfin : PlTo w w13 base p wv { P with c := setW P.c i (xn : Int), sets := P.sets ++ [(y, xn)], gen := P.gen + 1 } := by
            exact ⟨_, _, _, _, ⟨hg13, ⟨hr13.nodes, hr13.vips, hr13.views, hr13.sets, hr13.wait⟩, h.out.hb⟩, keptS_trans _ _ _ _ _ hkk12 (keptS_less hk13 hkk12.size (fun k _ e => e))⟩
          have wg : IntKind.i64.wrap ((P.gen : Int) + 1) = (P.gen : Int) + 1 := wraps62 _ (by omega) (by unfold big at hgen; omega)
          clear q1 q10 q4 q5 hb9 hb10 hg10 hw10 hb11 h11 hg12 hk12 hr12 h12 hkk12 hg13 hk13 hr13 h7 hkk7 hB6
          replace hfin := hide hfin
          iterate 2 (refine wpList_plain rfl fun K hK => ?_; go_simp; refine hK _ _ ?_; clear hK K)
          refine wpList_plain rfl fun K hK => ?_
          go_simp
          refine hK _ _ ?_
          clear hK K
          refine wpList_nil ?_
          go_simp
          go_wp2_with fail
          go_ret
          exact ⟨rfl, by have h9 := hfin.out; rw [hh] at h9; exact h9⟩
    · obtain rfl : i = L := by omega
      have hlt : ((i : Int) < (i : Int)) = False := by simp
      have hho := hostOf_miss (ns := P.c.nodes) (s := y) (fun j nd hd => by
        by_cases hj : j < i
        · exact hno j nd hj hd
        · have h5 := (List.getElem?_eq_some_iff.1 hd).1
          have := hL.out
          omega)
      have hX1 := hX.out
      rw [hho] at hX1
      dsimp only at hX1
      subst hX1
      clear hno hho hX
      go_wp2_with fail
      go_ret
      exact ⟨rfl, h.out.same (Below.refl _ _)⟩
end Store20
end Go.Proofs.YtcpokkkdmenmgaaGreatDoor
/- store, the law: the document's store: add. No condition. -/
namespace Go.Proofs.YtcpokkkdmenmgaaGreatDoor
open Go.RowKit Go.ChangeShapes Go.WideShapes Go.ChangeAt Go.Deep
namespace Store20
open Conf18 (Nd Vp Vw Cfg zA MapI lt_of_blk cfC row_not_x row_set)
open Addr05 (Adr MaxAt)
open Val19
theorem info_wo : (Tryz.prog.info? 40).map (fun i => (i.zero, i.size, i.bytes)) = some (some (.agg #[.int .i64 0, .string ⟨#[]⟩, .string ⟨#[]⟩, .int .i64 0]), 4, 48) := by kernel_rfl
theorem woC_one (c : Wo) : ∀ u ∈ woC c, u.oneCell' = true := by
  intro u hu
  simp only [woC, List.mem_cons, List.not_mem_nil, or_false] at hu
  rcases hu with rfl | rfl | rfl | rfl <;> rfl
def addP (P : Pl) (o : Wo) : Pl × Nat := if P.made = false ∨ P.op = false then (P, 9) else if 64 ≤ P.wait.length then (P, 6) else ({ P with wait := P.wait ++ [o] }, 0)
def PaTo (w w' : World) (base p : Nat) (wv : Value) (P' : Pl) : Prop := ∃ a1 a2 a3 sv wv', PlC w' base p a1 a2 a3 sv wv' P' ∧ (wv'.ownBlock = wv.ownBlock ∨ ∃ k, wv'.ownBlock = some k ∧ w.heap.size ≤ k) ∧ KeptS w.heap.size (fun k => k = p ∨ wv.ownBlock = some k) w w'
theorem PlC.sameA {w w' : World} {base p : Nat} {a1 a2 a3 sv wv : Value} {P : Pl} (h : PlC w base p a1 a2 a3 sv wv P) (hb : Below w.heap.size w w') : PaTo w w' base p wv P := ⟨a1, a2, a3, sv, wv, h.below hb, .inl rfl, keptS_of_below hb (Nat.le_refl _)⟩
set_option maxRecDepth 20000 in
set_option maxHeartbeats 8000000 in
theorem padd_any {base p : Nat} {a1 a2 a3 sv wv : Value} (P : Pl) (o : Wo) (w : World) (h : PlC w base p a1 a2 a3 sv wv P) :
    Calls Tryz.prog 19 #[.pointer (some ⟨p, 0, none⟩), .agg #[.int .i64 o.kind, .string (str o.text), .string (str o.name), .int .i64 o.w]] w fun e w' => e = .returned (.int .i64 ((addP P o).2 : Int)) ∧ PaTo w w' base p wv (addP P o).1 := by
  obtain ⟨X, hX⟩ : ∃ X, addP P o = X := ⟨_, rfl⟩
  rw [hX]
  unfold addP at hX
  obtain ⟨w1, hw1⟩ : ∃ w1, w.alloc (.cells #[.int .i64 o.kind, .string (str o.text), .string (str o.name), .int .i64 o.w] 40) = w1 := ⟨_, rfl⟩
  have hb1 : Below w.heap.size w w1 := hw1 ▸ (Below.refl _ _).alloc (Nat.le_refl _) _
  have hg1 : w1.heap[w.heap.size]? = some (.cells #[.int .i64 o.kind, .string (str o.text), .string (str o.name), .int .i64 o.w] 40 (0, 0)) := hw1 ▸ blk_new _ _ _
  have h1 := h.below hb1
  obtain ⟨A, cap, hlv, hc1, hc2, -⟩ := own_isv h.rows.wait
  subst hlv
  have k14 := blk_cell h1.blk 14
  have k15 := blk_cell h1.blk 15
  have k17 := blk_cell h1.blk 17
  unfold plA cfC at k14 k15 k17
  by_cases hm : P.made = true
  case neg =>
    have hm2 : P.made = false := by simpa using hm
    rw [if_pos (.inl hm2)] at hX
    subst hX
    rw [hm2] at k15
    clear h1 hg1
    replace h := hide h
    replace hb1 := hide hb1
    go_enter Tryz.func19, Tryz.ntmps19
    go_upto_region 1 with fail
    clear hw1
    go_wp2_with fail
    go_ret
    exact ⟨rfl, h.out.sameA hb1.out⟩
  by_cases ho : P.op = true
  case neg =>
    have ho2 : P.op = false := by simpa using ho
    rw [if_pos (.inr ho2)] at hX
    subst hX
    rw [hm] at k15
    rw [ho2] at k14
    clear h1 hg1
    replace h := hide h
    replace hb1 := hide hb1
    go_enter Tryz.func19, Tryz.ntmps19
    go_upto_region 1 with fail
    clear hw1
    go_wp2_with fail
    go_ret
    exact ⟨rfl, h.out.sameA hb1.out⟩
  rw [if_neg (by rw [hm, ho]; decide)] at hX
  rw [hm] at k15
  rw [ho] at k14
  obtain ⟨L, hL⟩ : ∃ L, P.wait.length = L := ⟨_, rfl⟩
  rw [hL] at k17 hX hc1
  by_cases hf : 64 ≤ L
  · rw [if_pos hf] at hX
    subst hX
    clear h1 hg1
    replace h := hide h
    replace hb1 := hide hb1
    replace hL := hide hL
    go_enter Tryz.func19, Tryz.ntmps19
    go_upto_region 1 with fail
    clear hw1
    go_wp2_with fail
    go_ret
    exact ⟨rfl, h.out.sameA hb1.out⟩
  rw [if_neg hf] at hX
  subst hX
  have hz := h.lt
  have hz1 := lt_of_blk hg1
  have hne : ∀ k, (Value.slice A L cap).ownBlock = some k → k < w.heap.size ∧ k ≠ p := by
    intro k hk
    have hk2 : (Value.slice A P.wait.length cap).ownBlock = some k := by rw [hL]; exact hk
    refine ⟨(World.ownsRow.lt h.rows.wait _ hk2).2, ?_⟩
    rintro rfl
    exact row_ty h.rows.wait h.blk (by decide) hk2
  replace h := hide h
  replace h1 := hide h1
  replace hg1 := hide hg1
  replace hb1 := hide hb1
  replace hL := hide hL
  replace hne := hide hne
  go_enter Tryz.func19, Tryz.ntmps19
  go_upto_region 1 with fail
  clear hw1
  go_upto_region 5 with fail
  clear k14 k15 k17
  refine wp_region_Y [10] (KeptS w1.heap.size (fun k => (Value.slice A L cap).ownBlock = some k)) (by as_aux_lemma => kernel_rfl) ?_
  intro w2 hbd
  have h2 := h1.out.below hbd
  have hg2 := blk_below hbd hz1 hg1.out
  have hB2 := hb1.out.trans (hbd.mono hb1.out.size)
  have ze := hbd.size
  have lx := fun l : RelW (KeptS w1.heap.size (fun k => (Value.slice A L cap).ownBlock = some k)) w2 => (show l.w.cell? ⟨p, 17, none⟩ = some (.slice A L cap) from (blk_cell ((l.hk.block p (by omega) (fun e => (hne.out _ e).2 rfl)).trans h2.blk) 17).trans (by rw [hL.out]; rfl))
  have lz := fun l : RelW (KeptS w1.heap.size (fun k => (Value.slice A L cap).ownBlock = some k)) w2 => blk_cell ((l.hk.block w.heap.size hz1 (fun e => by have := (hne.out _ e).1; omega)).trans hg2)
  clear h1 hg1 hb1 hbd
  replace h2 := hide h2
  replace hB2 := hide hB2
  replace hg2 := hide hg2
  refine wpY_seg [10] (KeptS w1.heap.size (fun k => (Value.slice A L cap).ownBlock = some k)) 0 6 (fuel := 5) (by as_aux_lemma => kernel_rfl) (fun d _ _ _ _ h => by cases d <;> exact h) (by as_aux_lemma => kernel_rfl) (by as_aux_lemma => kernel_rfl) (by as_aux_lemma => kernel_rfl) ?_
  simp only [List.drop_zero, List.take_succ_cons, List.take_zero]
  iterate 6 (refine wpQX_step (fun K hK => ?_); go_simp; refine hK _ ?_; clear hK K)
  refine wpQF_nil ?_
  clear lx lz
  refine wpW_step 6 rfl (by as_aux_lemma => kernel_rfl) (fun K hK => ?_)
  go_simp
  refine hK _ _ (relY_of (keptS_of_below ((Below.refl _ _).alloc (Nat.le_refl _) _) ze)) ?_
  clear hK K
  obtain ⟨wt, hwt⟩ : ∃ wt, w2.alloc (.cells (woC o).toArray 40) = wt := ⟨_, rfl⟩
  have hbt : Below w2.heap.size w2 wt := hwt ▸ (Below.refl _ _).alloc (Nat.le_refl _) _
  have hnt : wt.heap[w2.heap.size]? = some (.cells (woC o).toArray 40 (0, 0)) := hwt ▸ blk_new _ _ _
  change wpW _ _ _ _ _ _ _ _ (w2.alloc (.cells (woC o).toArray 40))
  rw [hwt]
  have ht := h2.out.below hbt
  have hBt := hB2.out.trans (hbt.mono hB2.out.size)
  have zt := hbt.size
  have hbz : base ≤ wt.heap.size := by have := ht.hb; have := ht.lt; omega
  clear hwt hbt h2 hB2 hg2
  refine wpW_step 7 rfl (by as_aux_lemma => kernel_rfl) (fun K hK => ?_)
  rw [if_pos (by unfold Region.wanted; rfl)]
  refine wp_app_c (T := 40) Tryz.underlying22 info_wo rfl (by decide) (by decide) (.tmp 27) (.tmp 29) rfl base (.slice A L cap) L (P.wait.map woC).flatten (woC o) w2.heap.size rfl rfl (by have := ht.rows.wait; rw [hL.out] at this; exact this) hnt rfl (woC_one _) hbz (by omega) fun v11 w11 q1 q2 => hK _ _ (relY_of ⟨q2.grown.os, q2.grown.tape, q2.grown.output, q2.grown.size, fun k hk hne => q2.grown.block k (by omega) (fun e => hne e.symm)⟩) ?_
  clear hK K hnt
  obtain ⟨A11, c11, hv11, -, -, -⟩ := own_isv q1
  subst hv11
  have hz11 := q2.grown.size
  have hb11 := (q2.grown.block p (by omega) (fun e => (hne.out _ e.symm).2 rfl)).trans ht.blk
  have hcc := (blk_cell hb11 17)
  have hff := blk_free hb11 17
  unfold plA cfC at hcc
  have hkt : KeptS wt.heap.size (fun k => (Value.slice A L cap).ownBlock = some k) wt w11 := ⟨q2.grown.os, q2.grown.tape, q2.grown.output, q2.grown.size, fun k hk hne => q2.grown.block k hk (fun e => hne e.symm)⟩
  have hno : ∀ {e : TypeId} {size n : Nat} {v : Value} {xs : List Value}, wt.ownsRow base e size v n xs → 40 ≠ e → ∀ k, (Value.slice A L cap).ownBlock = some k → v.ownBlock ≠ some k := by
    intro e size n v xs hr hne2 k hk
    have hw := ht.rows.wait
    rw [hL.out] at hw
    rcases rows_apart hr hw (Ne.symm hne2) with h9 | h9
    · rw [h9]; intro e; cases e
    · intro e9; exact h9 (by rw [e9, hk])
  have rn := row_keptP ht.rows.nodes hkt (hno ht.rows.nodes (by decide))
  have rv := row_keptP ht.rows.vips hkt (hno ht.rows.vips (by decide))
  have rw2 := row_keptP ht.rows.views hkt (hno ht.rows.views (by decide))
  have rs := row_keptP ht.rows.sets hkt (hno ht.rows.sets (by decide))
  obtain ⟨w12, hw12⟩ : ∃ w12, w11.setCell ⟨p, 17, none⟩ (.slice A11 (L + 1) c11) = w12 := ⟨_, rfl⟩
  obtain ⟨hg12, hk12⟩ := keptS_cell hb11 hw12
  have hty : ∀ {e : TypeId} {size n : Nat} {v : Value} {xs : List Value}, w11.ownsRow base e size v n xs → 37 ≠ e → w12.ownsRow base e size v n xs := fun hr hne2 => row_keptP hr hk12 (fun k e => by subst e; exact row_ty hr hb11 hne2)
  have hfin : PaTo w w12 base p (.slice A L cap) { P with wait := P.wait ++ [o] } := by
    refine ⟨_, _, _, _, .slice A11 (L + 1) c11, ⟨hg12, ⟨hty rn (by decide), hty rv (by decide), hty rw2 (by decide), hty rs (by decide), ?_⟩, h.out.hb⟩, ?_, ?_⟩
    · show w12.ownsRow base _ 4 _ (P.wait ++ [o]).length ((P.wait ++ [o]).map woC).flatten
      rw [List.length_append, List.length_singleton, hL.out, List.map_append, List.flatten_append]
      have := hty q1 (by decide)
      simpa using this
    · rcases q2.moved with e | ⟨k, e, hk⟩
      · exact .inl e
      · exact .inr ⟨k, e, by have := hBt.size; omega⟩
    · have hzt := hBt.size
      exact keptS_trans _ _ _ _ _ (keptS_of_below hBt (Nat.le_refl _)) (keptS_trans _ _ _ _ _ (keptS_less hkt hzt (fun k _ e => .inr e)) (keptS_less hk12 (by omega) (fun k _ e => .inl e)))
  clear q1 q2 ht hBt hb11 hg12 hk12 h hkt hno rn rv rw2 rs hty
  replace hfin := hide hfin
  refine wpW_step 8 rfl (by as_aux_lemma => kernel_rfl) (fun K hK => ?_)
  go_simp
  refine hK _ _ (relY_of (IsRel.refl _)) ?_
  clear hK K
  refine wpW_step 9 rfl (by as_aux_lemma => kernel_rfl) (fun K hK => ?_)
  go_simp
  refine hK _ _ (relY_of (IsRel.refl _)) ?_
  clear hK K
  refine wpW_step 10 rfl (by as_aux_lemma => kernel_rfl) (fun K hK => ?_)
  go_simp
  refine hK _ _ (relY_wr (by as_aux_lemma => kernel_rfl)) ?_
  clear hK K hcc hff hw12
  refine wpW_done (by as_aux_lemma => kernel_rfl) ?_ _
  go_wp2_with fail
  go_ret
  exact ⟨rfl, by rw [hL.out]; exact hfin.out⟩
end Store20
end Go.Proofs.YtcpokkkdmenmgaaGreatDoor
/- store, the law, plain: changes of the document's store, one by one; that it has what the store has. No condition. -/
namespace Go.Proofs.YtcpokkkdmenmgaaGreatDoor
open Go.RowKit Go.ChangeShapes Go.WideShapes Go.ChangeAt Go.Deep
namespace Store20
open Conf18 (Nd Vp Vw Cfg zA confF confF_good)
open Tree16 (treeF badF)
open Val19
theorem treeF_len {l : List Nd} (h : treeF l = none) : l.length ≤ 1024 := by
  refine Nat.le_of_not_lt fun hlt => ?_
  have h1 := (treeF_iff l).1 h 1024 _ (List.getElem?_eq_getElem hlt)
  have h2 := (bad_right h1).2
  exact h2 (.inl (by rw [List.length_take]; omega))
structure Pl.ok (P : Pl) : Prop where
  v : P.has = true → validF P.c = 0 ∧ P.c.good big
  len : P.c.nodes.length ≤ 1024
theorem Pl.ok.tree {P : Pl} (h : P.ok) (hh : P.has = true) : treeF P.c.nodes = none := (validF_parts (h.v hh).1).2.1
theorem loadP_ok {P : Pl} (h : P.ok) {t : List UInt8} (ht : t.length ≤ 65536) : (loadP P t).1.ok := by
  unfold loadP
  rcases e : confF t with p | c
  · exact h
  · dsimp only
    split
    · exact h
    · rename_i hv
      have hv0 := Decidable.byContradiction hv
      have hg := confF_good e
      exact ⟨fun _ => ⟨hv0, ⟨fun n hn => ⟨(hg.nodes n hn).1, Nat.le_trans (hg.nodes n hn).2 (Nat.le_trans ht (by decide))⟩, hg.vips, hg.views, hg.s0, hg.s1⟩⟩, treeF_len (validF_parts hv0).2.1⟩
theorem weightP_ok {P : Pl} (h : P.ok) (s : List UInt8) (x : Int) : (weightP P s x).1.ok := by
  unfold weightP
  split
  · exact h
  · rename_i hh
    have hh1 : P.has = true := by simpa using hh
    split
    · exact h
    · rename_i hx
      rcases e2 : hostOf P.c.nodes s with _ | k
      · exact h
      · dsimp only
        obtain ⟨n, h1, h2, h3, h4⟩ := hostOf_some e2
        obtain ⟨g1, g2⟩ := h.v hh1
        refine ⟨fun _ => ⟨valid_wt g1 h1 h3 (by omega) (by omega), good_wt g2 h1⟩, ?_⟩
        show (wtN P.c.nodes k x).length ≤ 1024
        rw [wtN_len]
        exact h.len
theorem loadP_n (P : Pl) (t : List UInt8) : (loadP P t).1.gen ≤ P.gen + 1 ∧ (loadP P t).1.sets.length ≤ P.sets.length + 1 := by
  unfold loadP
  split
  · exact ⟨Nat.le_succ _, Nat.le_succ _⟩
  · split
    · exact ⟨Nat.le_succ _, Nat.le_succ _⟩
    · exact ⟨Nat.le_refl _, Nat.zero_le _⟩
theorem weightP_n (P : Pl) (s : List UInt8) (x : Int) : (weightP P s x).1.gen ≤ P.gen + 1 ∧ (weightP P s x).1.sets.length ≤ P.sets.length + 1 := by
  unfold weightP
  split
  · exact ⟨Nat.le_succ _, Nat.le_succ _⟩
  · split
    · exact ⟨Nat.le_succ _, Nat.le_succ _⟩
    · split
      · exact ⟨Nat.le_succ _, Nat.le_succ _⟩
      · exact ⟨Nat.le_refl _, by simp⟩
def chP (P : Pl) (o : Wo) : Pl × Int := if o.kind = 3 then ((loadP P o.text).1, (loadP P o.text).2.2) else if o.name = [] then ((loadP P []).1, (loadP P []).2.2) else ((weightP P o.name o.w).1, ((weightP P o.name o.w).2 : Int))
def runP (P : Pl) : List Wo → Except Int Pl
  | [] => .ok P
  | c :: l => if (chP P c).2 = 0 then runP (chP P c).1 l else .error (chP P c).2
theorem runP_app (S : Pl) : ∀ (l : List Wo) (c : Wo), runP S (l ++ [c]) = match runP S l with | .error e => .error e | .ok S1 => if (chP S1 c).2 = 0 then .ok (chP S1 c).1 else .error (chP S1 c).2 := by
  intro l
  induction l generalizing S with
  | nil => intro c; rfl
  | cons x l ih =>
    intro c
    rw [List.cons_append, runP, runP]
    split
    · exact ih _ c
    · rfl
theorem runP_next {S S1 : Pl} {l : List Wo} {i : Nat} {c : Wo} (h : runP S (l.take i) = .ok S1) (hc : l[i]? = some c) (h0 : (chP S1 c).2 = 0) : runP S (l.take (i + 1)) = .ok (chP S1 c).1 := by
  rw [List.take_add_one, hc, Option.toList, runP_app, h]
  exact if_pos h0
theorem runP_err {S S1 : Pl} {l : List Wo} {i : Nat} {c : Wo} (h : runP S (l.take i) = .ok S1) (hc : l[i]? = some c) (h0 : (chP S1 c).2 ≠ 0) : runP S l = .error (chP S1 c).2 := by
  have h1 : runP S (l.take (i + 1)) = .error (chP S1 c).2 := by
    rw [List.take_add_one, hc, Option.toList, runP_app, h]
    exact if_neg h0
  have key : ∀ (a b : List Wo) (S : Pl) (e : Int), runP S a = .error e → runP S (a ++ b) = .error e := by
    intro a b
    induction a with
    | nil => intro S e h; cases h
    | cons x a ih =>
      intro S e h
      rw [List.cons_append, runP]
      rw [runP] at h
      split
      · rename_i h0
        rw [if_pos h0] at h
        exact ih _ _ h
      · rename_i h0
        rw [if_neg h0] at h
        exact h
  have := key _ (l.drop (i + 1)) _ _ h1
  rwa [List.take_append_drop] at this
theorem chP_ok {P : Pl} (h : P.ok) {o : Wo} (ho : o.text.length ≤ 65536) : (chP P o).1.ok := by
  unfold chP
  split
  · exact loadP_ok h ho
  · split
    · exact loadP_ok h (by decide)
    · exact weightP_ok h _ _
theorem chP_n (P : Pl) (o : Wo) : (chP P o).1.gen ≤ P.gen + 1 ∧ (chP P o).1.sets.length ≤ P.sets.length + 1 := by
  unfold chP
  split
  · exact loadP_n _ _
  · split
    · exact loadP_n _ _
    · exact weightP_n _ _ _
def startX (P : Pl) : Pl := { P with op := false, made := false, fr := 0, wait := [] }
def commitP (P : Pl) : Pl × Int := if P.made = false ∨ P.op = false then (P, 9) else if P.fr ≠ P.gen then ({ P with op := false }, 19) else match runP (startX P) P.wait with
  | .error e => ({ P with op := false }, e)
  | .ok X => ({ P with op := false, c := X.c, has := X.has, sets := X.sets, gen := if P.wait = [] then P.gen else P.gen + 1 }, 0)
/-! ### The document's store has what the store has. -/
/-- The weight that was set of a name: the last one. -/
def lastW (l : List (List UInt8 × Nat)) (y : List UInt8) : Option Nat := match l with
  | [] => none
  | (s, x) :: r => match lastW r y with
    | some v => some v
    | none => if s = y then some x else none
theorem lastW_snoc (l : List (List UInt8 × Nat)) (s y : List UInt8) (x : Nat) : lastW (l ++ [(s, x)]) y = if y = s then some x else lastW l y := by
  induction l with
  | nil =>
    show (match lastW [] y with | some v => some v | none => if s = y then some x else none) = _
    by_cases h : y = s
    · subst h; simp [lastW]
    · rw [if_neg h]
      simp only [lastW]
      exact if_neg (fun e => h e.symm)
  | cons p l ih =>
    obtain ⟨s', x'⟩ := p
    rw [List.cons_append, lastW, ih]
    by_cases h : y = s
    · rw [if_pos h, if_pos h]
    · rw [if_neg h, if_neg h, lastW]
structure Alike (S : St) (P : Pl) : Prop where
  c : S.c = if P.has = true then some P.c else none
  gen : S.gen = P.gen
  sets : S.sets = lastW P.sets
theorem Alike.load {S : St} {P : Pl} (h : Alike S P) (t : List UInt8) : (loadS S t).2 = (loadP P t).2 ∧ Alike (loadS S t).1 (loadP P t).1 := by
  unfold loadS loadP
  rcases confF t with p | c
  · exact ⟨rfl, h⟩
  · dsimp only
    split
    · exact ⟨rfl, h⟩
    · exact ⟨rfl, ⟨rfl, by show S.gen + 1 = P.gen + 1; rw [h.gen], by funext y; rfl⟩⟩
theorem Alike.weight {S : St} {P : Pl} (h : Alike S P) (s : List UInt8) (x : Int) : (weightS S s x).2 = (weightP P s x).2 ∧ Alike (weightS S s x).1 (weightP P s x).1 := by
  unfold weightS weightP
  have hc := h.c
  by_cases hh : P.has = true
  · rw [if_pos hh] at hc
    rw [hc, if_neg (by rw [hh]; decide)]
    dsimp only
    split
    · exact ⟨rfl, h⟩
    · generalize hostOf P.c.nodes s = o
      rcases o with _ | k
      · exact ⟨rfl, h⟩
      · refine ⟨rfl, ⟨by show some (setW P.c k x) = if P.has = true then some (setW P.c k x) else none; rw [if_pos hh], by show S.gen + 1 = P.gen + 1; rw [h.gen], ?_⟩⟩
        funext y
        show (if y = s then some x.toNat else S.sets y) = lastW (P.sets ++ [(s, x.toNat)]) y
        rw [lastW_snoc, h.sets]
  · rw [if_neg hh] at hc
    rw [hc, if_pos (by simpa using hh)]
    exact ⟨rfl, h⟩
/-- A change of both. -/
def Tells (c : Ch) (o : Wo) : Prop := if o.kind = 3 then c = ⟨o.text, [], 0⟩ else c = ⟨[], o.name, o.w⟩
theorem Alike.ch {S : St} {P : Pl} (h : Alike S P) {c : Ch} {o : Wo} (ht : Tells c o) : (chS S c).2 = (chP P o).2 ∧ Alike (chS S c).1 (chP P o).1 := by
  unfold Tells at ht
  unfold chS chP
  by_cases hk : o.kind = 3
  · rw [if_pos hk] at ht
    subst ht
    rw [if_pos rfl, if_pos hk]
    have := h.load o.text
    exact ⟨by rw [this.1], this.2⟩
  · rw [if_neg hk] at ht
    subst ht
    rw [if_neg hk]
    dsimp only
    by_cases hn : o.name = []
    · rw [if_pos hn, if_pos hn]
      have := h.load []
      exact ⟨by rw [this.1], this.2⟩
    · rw [if_neg hn, if_neg hn]
      have := h.weight o.name o.w
      exact ⟨by rw [this.1], this.2⟩
/-- Rows of changes that tell the same. -/
def TellsL (cs : List Ch) (os : List Wo) : Prop := cs.length = os.length ∧ ∀ (i : Nat) (c : Ch) (o : Wo), cs[i]? = some c → os[i]? = some o → Tells c o
theorem TellsL.tail {c : Ch} {o : Wo} {cs : List Ch} {os : List Wo} (h : TellsL (c :: cs) (o :: os)) : Tells c o ∧ TellsL cs os := ⟨h.2 0 c o rfl rfl, by have := h.1; simp at this; exact this, fun i c' o' h1 h2 => h.2 (i + 1) c' o' (by simpa using h1) (by simpa using h2)⟩
theorem Alike.run : ∀ (cs : List Ch) (os : List Wo) (S : St) (P : Pl), Alike S P → TellsL cs os → (∃ e, runS S cs = .error e ∧ runP P os = .error e) ∨ (∃ S' P', runS S cs = .ok S' ∧ runP P os = .ok P' ∧ Alike S' P')
  | [], [], S, P, h, _ => .inr ⟨S, P, rfl, rfl, h⟩
  | c :: cs, [], S, P, h, ht => by have := ht.1; simp at this
  | [], o :: os, S, P, h, ht => by have := ht.1; simp at this
  | c :: cs, o :: os, S, P, h, ht => by
    obtain ⟨h1, h2⟩ := ht.tail
    obtain ⟨h3, h4⟩ := h.ch h1
    rw [runS, runP, h3]
    split
    · exact Alike.run cs os _ _ h4 h2
    · exact .inl ⟨_, rfl, rfl⟩
end Store20
end Go.Proofs.YtcpokkkdmenmgaaGreatDoor
