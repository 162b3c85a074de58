/- tree: a tree in memory, between the steps of put. No condition. -/
import Derived.Test.YtcpokkkdmenmgaaDoorQStoreNobody16
import Derived.Test.YtcpokkkdmenmgaaDoorQStoreNobody11
import Derived.Test.YtcpokkkdmenmgaaDoorQStoreNobody17
namespace Go.Proofs.YtcpokkkdmenmgaaDoor
open Go.RowKit Go.ChangeShapes Go.WideShapes Go.ChangeAt Go.Deep
namespace Tree16
open Conf18 (Nd ndC lt_of_blk row_set row_not_x)
theorem set_take {α : Type} (l : List α) (n i : Nat) (u : α) : (l.set i u).take n = (l.take n).set i u := by
  rw [List.take_set]
/-- A cell of a row of the call's own is told otherwise. -/
theorem row_upd {w : World} {base : Nat} {e : TypeId} {v : Value} {n : Nat} {xs : List Value} (h : w.ownsRow base e 1 v n xs) {i : Nat} (hi : i < n) (u : Value) :
    ∃ g cap cur, v = .slice (some ⟨g, 0, none⟩) n cap ∧ base ≤ g ∧ n ≤ cap ∧ cap ≤ maxLen ∧ w.heap[g]? = some (.cells cur e (0, 0)) ∧ i < cur.size ∧ (w.setCell ⟨g, i, none⟩ u).ownsRow base e 1 v n (xs.set i u) ∧ xs[i]? = cur[i]? := by
  obtain ⟨hl, ⟨-, h0⟩ | ⟨g, cap, cur, hv, hg, hh, h1, h2, h3, h4⟩⟩ := h
  · omega
  · refine ⟨g, cap, cur, hv, hg, h1, h2, hh, by omega, ⟨by rw [List.length_set]; exact hl, .inr ⟨g, cap, cur.setIfInBounds i u, hv, hg, blk_set hh i u, h1, h2, by rw [Array.size_setIfInBounds]; exact h3, ?_⟩⟩, ?_⟩
    · rw [Array.toList_setIfInBounds, set_take, h4]
    · rw [← h4, List.getElem?_take, if_pos (by omega), Array.getElem?_toList]
structure TreeM (w : World) (base x : Nat) (ns : List Nd) (nv kv tv hv : Value) (us : List Value) (xs : List (List Int)) : Prop where
  blk : w.heap[x]? = some (.cells #[nv, kv, tv, hv] 111 (0, 0))
  hx : base ≤ x
  nodes : w.ownsRow base 72 7 nv ns.length (ns.map ndC).flatten
  kids : w.ownsRow base 109 1 kv us.length us
  rows : Rows w base (tv :: hv :: us) xs
section
variable {w w' : World} {base x : Nat} {ns : List Nd} {nv kv tv hv nv' kv' tv' hv' : Value} {us : List Value} {xs : List (List Int)}
theorem TreeM.on (h : TreeM w base x ns nv kv tv hv us xs) (hb : Below w.heap.size w w') : TreeM w' base x ns nv kv tv hv us xs :=
  ⟨(hb.block x (lt_of_blk h.blk)).trans h.blk, h.hx, row_on h.nodes hb, row_on h.kids hb, h.rows.on hb⟩
theorem Rows.set_x {vs : List Value} (h : Rows w base vs xs) {cs : Array Value} {T : TypeId} (hx : w.heap[x]? = some (.cells cs T (0, 0))) (hT : T ≠ 3) (i : Nat) (u : Value) : Rows (w.setCell ⟨x, i, none⟩ u) base vs xs :=
  ⟨h.len, fun j v y h1 h2 => row_set (h.own j v y h1 h2) hx hT i u, h.apart⟩
theorem Rows.other {vs : List Value} (h : Rows w base vs xs) {v : Value} {e : TypeId} {size n : Nat} {ys : List Value} (ho : w.ownsRow base e size v n ys) (he : 3 ≠ e) (hg : w.grownBy w' v.ownBlock) : Rows w' base vs xs := by
  refine ⟨h.len, fun j u y h1 h2 => World.ownsRow.kept (h.own j u y h1 h2) hg (rows_apart (h.own j u y h1 h2) ho he), h.apart⟩
theorem blk_kept {v : Value} {e : TypeId} {size n : Nat} {ys : List Value} {cs : Array Value} {T : TypeId} (hx : w.heap[x]? = some (.cells cs T (0, 0))) (ho : w.ownsRow base e size v n ys) (he : T ≠ e) (hg : w.grownBy w' v.ownBlock) : w'.heap[x]? = some (.cells cs T (0, 0)) := by
  refine (hg.block x (lt_of_blk hx) ?_).trans hx
  rcases row_not_x ho hx he with h3 | h3
  · rw [h3]; intro e; cases e
  · intro e; exact h3 e.symm
theorem TreeM.pushN {n : Nd} (h : TreeM w base x ns nv kv tv hv us xs) (h1 : w'.ownsRow base 72 7 nv' (ns.length + 1) ((ns.map ndC).flatten ++ ndC n)) (h2 : Grew w nv w' nv') :
    w'.heap[x]? = some (.cells #[nv, kv, tv, hv] 111 (0, 0)) ∧ TreeM (w'.setCell ⟨x, 0, none⟩ nv') base x (ns ++ [n]) nv' kv tv hv us xs := by
  have hb := blk_kept h.blk h.nodes (by decide) h2.grown
  have k1 := World.ownsRow.kept h.kids h2.grown (rows_apart h.kids h.nodes (by decide))
  have k2 := h.rows.other h.nodes (by decide) h2.grown
  refine ⟨hb, blk_set hb 0 nv', h.hx, ?_, row_set k1 hb (by decide) 0 nv', k2.set_x hb (by decide) 0 nv'⟩
  have h3 := row_set h1 hb (by decide) 0 nv'
  simpa [List.length_append] using h3
theorem TreeM.pushK (h : TreeM w base x ns nv kv tv hv us xs) (h1 : w'.ownsRow base 109 1 kv' (us.length + 1) (us ++ [.slice none 0 0])) (h2 : Grew w kv w' kv') :
    w'.heap[x]? = some (.cells #[nv, kv, tv, hv] 111 (0, 0)) ∧ TreeM (w'.setCell ⟨x, 1, none⟩ kv') base x ns nv kv' tv hv (us ++ [.slice none 0 0]) (xs ++ [[]]) := by
  have hb := blk_kept h.blk h.kids (by decide) h2.grown
  have k1 := World.ownsRow.kept h.nodes h2.grown (rows_apart h.nodes h.kids (by decide))
  have k2 := (h.rows.other h.kids (by decide) h2.grown).more
  refine ⟨hb, blk_set hb 1 kv', h.hx, row_set k1 hb (by decide) 1 kv', ?_, k2.set_x hb (by decide) 1 kv'⟩
  have h3 := row_set h1 hb (by decide) 1 kv'
  simpa [List.length_append] using h3
theorem TreeM.growT {y : List Int} {m : Int} (h : TreeM w base x ns nv kv tv hv us (y :: xs)) (h1 : w'.ownsRow base 3 1 tv' (y.length + 1) (y.map intv ++ [intv m])) (h2 : Grew w tv w' tv') :
    w'.heap[x]? = some (.cells #[nv, kv, tv, hv] 111 (0, 0)) ∧ TreeM (w'.setCell ⟨x, 2, none⟩ tv') base x ns nv kv tv' hv us ((y ++ [m]) :: xs) := by
  have ho := h.rows.own 0 tv y rfl rfl
  have hb := blk_kept h.blk ho (by decide) h2.grown
  have k1 := World.ownsRow.kept h.nodes h2.grown (rows_apart h.nodes ho (by decide))
  have k2 := World.ownsRow.kept h.kids h2.grown (rows_apart h.kids ho (by decide))
  have k3 := h.rows.grow (i := 0) (x' := y ++ [m]) rfl rfl (by rw [List.length_append, List.length_singleton, List.map_append]; exact h1) h2
  exact ⟨hb, blk_set hb 2 tv', h.hx, row_set k1 hb (by decide) 2 tv', row_set k2 hb (by decide) 2 tv', Rows.set_x k3 hb (by decide) 2 tv'⟩
theorem TreeM.growH {z y : List Int} {m : Int} (h : TreeM w base x ns nv kv tv hv us (z :: y :: xs)) (h1 : w'.ownsRow base 3 1 hv' (y.length + 1) (y.map intv ++ [intv m])) (h2 : Grew w hv w' hv') :
    w'.heap[x]? = some (.cells #[nv, kv, tv, hv] 111 (0, 0)) ∧ TreeM (w'.setCell ⟨x, 3, none⟩ hv') base x ns nv kv tv hv' us (z :: (y ++ [m]) :: xs) := by
  have ho := h.rows.own 1 hv y rfl rfl
  have hb := blk_kept h.blk ho (by decide) h2.grown
  have k1 := World.ownsRow.kept h.nodes h2.grown (rows_apart h.nodes ho (by decide))
  have k2 := World.ownsRow.kept h.kids h2.grown (rows_apart h.kids ho (by decide))
  have k3 := h.rows.grow (i := 1) (x' := y ++ [m]) rfl rfl (by rw [List.length_append, List.length_singleton, List.map_append]; exact h1) h2
  exact ⟨hb, blk_set hb 3 hv', h.hx, row_set k1 hb (by decide) 3 hv', row_set k2 hb (by decide) 3 hv', Rows.set_x k3 hb (by decide) 3 hv'⟩
/-- The row of the nodes below one grows. -/
theorem TreeM.growK {y : List Int} {m : Int} {a : Nat} {v v' : Value} (h : TreeM w base x ns nv kv tv hv us xs) (hv1 : us[a]? = some v) (hx1 : xs[a + 2]? = some y) (h1 : w'.ownsRow base 3 1 v' (y.length + 1) (y.map intv ++ [intv m])) (h2 : Grew w v w' v') :
    ∃ g cap cur, kv = .slice (some ⟨g, 0, none⟩) us.length cap ∧ base ≤ g ∧ w'.heap[g]? = some (.cells cur 109 (0, 0)) ∧ cur[a]? = some v ∧ TreeM (w'.setCell ⟨g, a, none⟩ v') base x ns nv kv tv hv (us.set a v') (xs.set (a + 2) (y ++ [m])) := by
  have ho := h.rows.own (a + 2) v y hv1 hx1
  have hb := blk_kept h.blk ho (by decide) h2.grown
  have k1 := World.ownsRow.kept h.nodes h2.grown (rows_apart h.nodes ho (by decide))
  have k2 := World.ownsRow.kept h.kids h2.grown (rows_apart h.kids ho (by decide))
  have k3 := h.rows.grow (i := a + 2) (x' := y ++ [m]) hv1 hx1 (by rw [List.length_append, List.length_singleton, List.map_append]; exact h1) h2
  have ha := (List.getElem?_eq_some_iff.1 hv1).1
  obtain ⟨g, cap, cur, e1, e2, -, -, e3, e4, e5, e6⟩ := row_upd k2 ha v'
  refine ⟨g, cap, cur, e1, e2, e3, by rw [← e6]; exact hv1, ?_⟩
  have hxg : x ≠ g := by
    rintro rfl
    rw [hb] at e3
    simp at e3
  refine ⟨?_, h.hx, row_set k1 e3 (by decide) a v', by rw [List.length_set]; exact e5, ?_⟩
  · obtain ⟨w2, g1, g2, g3⟩ := store_cell e3 a v'
    rw [g1]
    exact grown_other g3 (lt_of_blk hb) hxg hb
  · exact Rows.set_x k3 e3 (by decide) a v'
end
end Tree16
end Go.Proofs.YtcpokkkdmenmgaaDoor
/- tree: put: one node more. Condition: fewer than 1024 nodes. -/
namespace Go.Proofs.YtcpokkkdmenmgaaDoor
open Go.RowKit Go.ChangeShapes Go.WideShapes Go.ChangeAt Go.Deep
namespace Tree16
open Conf18 (Nd ndC lt_of_blk row_set row_not_x info_nd ndC_one)
theorem info_ints : (Tryd.prog.info? 109).map (fun i => (i.zero, i.size, i.bytes)) = some (some (.slice none 0 0), 1, 24) := by kernel_rfl
theorem info_int : (Tryd.prog.info? 3).map (fun i => (i.zero, i.size, i.bytes)) = some (some (.int .i64 0), 1, 8) := by kernel_rfl
theorem kids_more (ns : List Nd) (n : Nd) (hs : ∀ m ∈ ns, m.above < (ns.length : Int)) (hn : n.above < (ns.length : Int)) :
    (List.range (ns ++ [n]).length).map (kidsF (ns ++ [n])) = if 0 ≤ n.above then ((List.range ns.length).map (kidsF ns) ++ [[]]).set n.above.toNat (kidsF ns n.above.toNat ++ [(ns.length : Int)]) else (List.range ns.length).map (kidsF ns) ++ [[]] := by
  have e1 : ∀ i : Nat, kidsF (ns ++ [n]) i = if n.above = (i : Int) then kidsF ns i ++ [(ns.length : Int)] else kidsF ns i := by
    intro i
    unfold kidsF
    rw [placesF_snoc]
    by_cases h : n.above = (i : Int)
    · rw [if_pos h, if_pos (decide_eq_true h)]
    · rw [if_neg h, if_neg (by simpa using h)]
  have e2 : kidsF ns ns.length = [] := by
    unfold kidsF placesF placesN
    rw [List.map_eq_nil_iff, List.filter_eq_nil_iff]
    intro j hj
    have hj2 := List.mem_range.1 hj
    rw [List.getElem?_eq_getElem hj2]
    have := hs _ (List.getElem_mem hj2)
    simp
    omega
  rw [List.length_append, List.length_singleton]
  apply List.ext_getElem?
  intro j
  rw [List.getElem?_map]
  by_cases hj : j < ns.length + 1
  · rw [List.getElem?_range hj]
    have hb : ((List.range ns.length).map (kidsF ns) ++ [[]])[j]? = some (kidsF ns j) := by
      by_cases hj2 : j < ns.length
      · rw [List.getElem?_append_left (by simpa using hj2), List.getElem?_map, List.getElem?_range hj2]; rfl
      · obtain rfl : j = ns.length := by omega
        rw [List.getElem?_append_right (by simp), e2]
        simp
    simp only [Option.map_some, e1]
    by_cases h0 : 0 ≤ n.above
    · rw [if_pos h0]
      by_cases h : n.above = (j : Int)
      · rw [if_pos h, show n.above.toNat = j by omega, List.getElem?_set_self (by simp; omega)]
      · rw [if_neg h, List.getElem?_set_ne (by omega), hb]
    · rw [if_neg h0, if_neg (by omega), hb]
  · rw [List.getElem?_eq_none (by simp; omega)]
    split
    · rw [List.getElem?_eq_none (by simp; omega)]; rfl
    · rw [List.getElem?_eq_none (by simp; omega)]; rfl
theorem top_more (ns : List Nd) (n : Nd) : topF (ns ++ [n]) = if n.kind = 1 then topF ns ++ [(ns.length : Int)] else topF ns := by
  unfold topF
  rw [placesF_snoc]
  by_cases h : n.kind = 1
  · rw [if_pos h, if_pos (decide_eq_true h)]
  · rw [if_neg h, if_neg (by simpa using h)]
theorem hosts_more (ns : List Nd) (n : Nd) : hostsF (ns ++ [n]) = if n.kind = 4 then hostsF ns ++ [(ns.length : Int)] else hostsF ns := by
  unfold hostsF
  rw [placesF_snoc]
  by_cases h : n.kind = 4
  · rw [if_pos h, if_pos (decide_eq_true h)]
  · rw [if_neg h, if_neg (by simpa using h)]
theorem TreeC.toM {w : World} {base x : Nat} {ns : List Nd} {nv kv tv hv : Value} {us : List Value} (h : TreeC w base x ns nv kv tv hv us) : us.length = ns.length ∧ TreeM w base x ns nv kv tv hv us (topF ns :: hostsF ns :: (List.range ns.length).map (kidsF ns)) := by
  have hl : us.length = ns.length := by have := h.kids.1; omega
  exact ⟨hl, h.blk, h.hx, h.nodes, by rw [hl]; exact h.kids, h.rows⟩
set_option maxRecDepth 20000 in
set_option maxHeartbeats 16000000 in
theorem tput_any (n : Nd) (ns : List Nd) (w : World) (base x : Nat) (hT : TreeAt w base x ns) (hlt : ns.length < 1024) (hab : n.above < (ns.length : Int)) (hk : 1 ≤ n.kind ∧ n.kind ≤ 4) :
    Calls Tryd.prog 46 #[.pointer (some ⟨x, 0, none⟩), .agg (ndA n)] w fun e w' => e = .returned (.tuple #[]) ∧ TreeAt w' base x (ns ++ [n]) ∧ Below base w w' := by
  obtain ⟨nv, kv, tv, hv, us, hC⟩ := hT
  have hsm := hC.small
  obtain ⟨hul, h⟩ := hC.toM
  have hkm := kids_more ns n hsm.2 hab
  have htm := top_more ns n
  have hhm := hosts_more ns n
  have hbx := h.hx
  have hxs := lt_of_blk h.blk
  obtain ⟨nm, kd, ab, wt, ⟨v6, hi, lo⟩⟩ := n
  obtain ⟨N, hN⟩ : ∃ N : Nd, N = ⟨nm, kd, ab, wt, ⟨v6, hi, lo⟩⟩ := ⟨_, rfl⟩
  rw [← hN] at hkm htm hhm ⊢
  have hNk : N.kind = kd := by rw [hN]
  have hNa : N.above = ab := by rw [hN]
  rw [hNk] at htm hhm
  rw [hNa] at hkm
  dsimp only at hab hk
  have hNC : (ndC N).toArray = #[.string (str nm), .int .i64 kd, .int .i64 ab, .int .i64 wt, .bool v6, .int .u64 (hi : Int), .int .u64 (lo : Int)] := by rw [hN]; rfl
  unfold ndA
  rw [show (#[.string (str N.name), .int .i64 N.kind, .int .i64 N.above, .int .i64 N.weight, .bool N.a.v6, .int .u64 (N.a.hi : Int), .int .u64 (N.a.lo : Int)] : Array Value) = #[.string (str nm), .int .i64 kd, .int .i64 ab, .int .i64 wt, .bool v6, .int .u64 (hi : Int), .int .u64 (lo : Int)] by rw [hN]]
  obtain ⟨z, hz⟩ : ∃ z, w.heap.size = z := ⟨_, rfl⟩
  obtain ⟨w1, hw1⟩ : ∃ w1, w.alloc (.cells #[.string (str nm), .int .i64 kd, .int .i64 ab, .int .i64 wt, .bool v6, .int .u64 (hi : Int), .int .u64 (lo : Int)] 72) = w1 := ⟨_, rfl⟩
  have hb1 : Below w.heap.size w w1 := hw1 ▸ (Below.refl _ _).alloc (Nat.le_refl _) _
  have hg1 : w1.heap[w.heap.size]? = some (.cells #[.string (str nm), .int .i64 kd, .int .i64 ab, .int .i64 wt, .bool v6, .int .u64 (hi : Int), .int .u64 (lo : Int)] 72 (0, 0)) := hw1 ▸ blk_new _ _ _
  have h1 := h.on hb1
  rw [hz] at hb1 hg1 hxs
  have hz1 : z < w1.heap.size := lt_of_blk hg1
  obtain ⟨An, cn, hnv, -, -, -⟩ := own_isv h1.nodes
  subst hnv
  have kx0 : w1.cell? ⟨x, 0, none⟩ = some (.slice An ns.length cn) := blk_cell h1.blk 0
  have hB1 : Below base w w1 := hb1.mono (by omega)
  have hrz : ∀ {e : TypeId} {size m : Nat} {v : Value} {ys : List Value}, w.ownsRow base e size v m ys → v.ownBlock = some z → False := fun ho e => by have := (World.ownsRow.lt ho _ e).2; omega
  have hrzn := hrz h.nodes
  have hrzk := hrz h.kids
  have hrzr := fun (i : Nat) (v : Value) (h1 : (tv :: hv :: us)[i]? = some v) => hrz (h.rows.own i v _ h1 (List.getElem?_eq_getElem (by rw [← h.rows.len]; exact (List.getElem?_eq_some_iff.1 h1).1)))
  obtain ⟨L, hL⟩ : ∃ L, ns.length = L := ⟨_, rfl⟩
  rw [hL] at kx0 hlt hab hrzn
  clear hC hb1 hrz
  replace h1 := hide h1
  replace hg1 := hide hg1
  replace hB1 := hide hB1
  replace hsm := hide hsm
  replace h := hide h
  replace hkm := hide hkm
  replace htm := hide htm
  replace hhm := hide hhm
  replace hN := hide hN
  replace hNk := hide hNk
  replace hNa := hide hNa
  replace hNC := hide hNC
  replace hrzk := hide hrzk
  replace hrzr := hide hrzr
  replace hul := hide hul
  go_enter Tryd.func46, Tryd.ntmps46
  go_upto_region 2 with fail
  clear hw1
  have hrx := row_not_x h1.out.nodes h1.out.blk (by decide)
  rw [hL] at hrx
  refine wp_region_Y [10] (KeptS w1.heap.size (fun k => (Value.slice An L cn).ownBlock = some k)) (by as_aux_lemma => kernel_rfl) ?_
  intro w2 hbd
  have h2 := h1.out.on hbd
  have hg2 := blk_below hbd hz1 hg1.out
  have hB2 := hB1.out.trans (hbd.mono (by omega))
  have ze := hbd.size
  have lx := fun l : RelW (KeptS w1.heap.size (fun k => (Value.slice An L cn).ownBlock = some k)) w2 => (show l.w.cell? ⟨x, 0, none⟩ = some (.slice An L cn) from (blk_cell ((l.hk.block x (by omega) (by rcases hrx with e | e <;> (intro e2; first | (rw [e] at e2; cases e2) | exact e e2))).trans h2.blk) 0).trans (by rw [hL]; rfl))
  have lz := fun l : RelW (KeptS w1.heap.size (fun k => (Value.slice An L cn).ownBlock = some k)) w2 => blk_cell ((l.hk.block z hz1 hrzn).trans hg2)
  clear h1 hg1 hB1 hbd hrx kx0
  replace h2 := hide h2
  replace hB2 := hide hB2
  replace hg2 := hide hg2
  refine wpY_seg [10] (KeptS w1.heap.size (fun k => (Value.slice An L cn).ownBlock = some k)) 0 6 (fuel := 5) (by as_aux_lemma => kernel_rfl) (fun d _ _ _ _ h => by cases d <;> exact h) (by as_aux_lemma => kernel_rfl) (by as_aux_lemma => kernel_rfl) (by as_aux_lemma => kernel_rfl) ?_
  simp only [List.drop_zero, List.take_succ_cons, List.take_zero]
  iterate 6 (refine wpQX_step (fun K hK => ?_); go_simp; refine hK _ ?_; clear hK K)
  refine wpQF_nil ?_
  clear lx lz
  refine wpW_step 6 rfl (by as_aux_lemma => kernel_rfl) (fun K hK => ?_)
  go_simp
  refine hK _ _ (relY_of (keptS_of_below ((Below.refl _ _).alloc (Nat.le_refl _) _) ze)) ?_
  clear hK K
  obtain ⟨wt2, hwt⟩ : ∃ wt2, w2.alloc (.cells (ndC N).toArray 72) = wt2 := ⟨_, rfl⟩
  have hbt : Below w2.heap.size w2 wt2 := hwt ▸ (Below.refl _ _).alloc (Nat.le_refl _) _
  have hnt : wt2.heap[w2.heap.size]? = some (.cells (ndC N).toArray 72 (0, 0)) := hwt ▸ blk_new _ _ _
  rw [hNC.out] at hwt
  change wpW _ _ _ _ _ _ _ _ (w2.alloc (.cells #[.string (str nm), .int .i64 kd, .int .i64 ab, .int .i64 wt, .bool v6, .int .u64 (hi : Int), .int .u64 (lo : Int)] 72))
  rw [hwt]
  have ht := h2.out.on hbt
  have hBt := hB2.out.trans (hbt.mono (by omega))
  have hgt := blk_below hbt (by omega) hg2.out
  have zt := hbt.size
  clear hwt hbt h2 hB2 hg2
  refine wpW_step 7 rfl (by as_aux_lemma => kernel_rfl) (fun K hK => ?_)
  rw [if_pos (by unfold Region.wanted; rfl)]
  refine wp_app_c (T := 72) Tryd.underlying22 info_nd rfl (by decide) (by decide) (.tmp 14) (.tmp 16) rfl base (.slice An L cn) L (ns.map ndC).flatten (ndC N) w2.heap.size rfl rfl (by have := ht.nodes; rw [hL] at this; exact this) hnt rfl (ndC_one _) (by omega) (by omega) fun v11 w11 q1 q2 => hK _ _ (relY_of ⟨q2.grown.os, q2.grown.tape, q2.grown.output, q2.grown.size, fun k hk hne => q2.grown.block k (by omega) (fun e => hne e.symm)⟩) ?_
  clear hK K hnt
  obtain ⟨A11, c11, hv11, -, -, -⟩ := own_isv q1
  subst hv11
  obtain ⟨hx11, h12⟩ := ht.pushN (n := N) (by rw [hL]; exact q1) (by rw [hL]; exact q2)
  have hlt11 := q2.grown.size
  have hB11 := hBt.trans (below_of_grown q2.grown (by omega) (fun k hk => (World.ownsRow.lt ht.nodes k (by rw [hL]; exact hk)).1))
  have hB12 : Below base w (w11.setCell ⟨x, 0, none⟩ (.slice A11 (L + 1) c11)) := hB11.setCell (p := ⟨x, 0, none⟩) hbx _
  have hgz : w11.heap[z]? = some (.cells #[.string (str nm), .int .i64 kd, .int .i64 ab, .int .i64 wt, .bool v6, .int .u64 (hi : Int), .int .u64 (lo : Int)] 72 (0, 0)) := (q2.grown.block z (by omega) (fun e => hrzn e.symm)).trans hgt
  have hgz2 : (w11.setCell ⟨x, 0, none⟩ (.slice A11 (L + 1) c11)).heap[z]? = some (.cells #[.string (str nm), .int .i64 kd, .int .i64 ab, .int .i64 wt, .bool v6, .int .u64 (hi : Int), .int .u64 (lo : Int)] 72 (0, 0)) := by
    obtain ⟨wq, g1, -, g3⟩ := store_cell hx11 0 (.slice A11 (L + 1) c11)
    rw [g1]
    exact grown_other g3 (lt_of_blk hgz) (by omega) hgz
  have hc : w11.cell? ⟨x, 0, none⟩ = some (.slice An ns.length cn) := blk_cell hx11 0
  have hf := blk_free hx11 0
  clear q1 q2 ht hBt hB11 hx11 hgt hgz
  obtain ⟨w12, hw12⟩ : ∃ w12, w11.setCell ⟨x, 0, none⟩ (.slice A11 (L + 1) c11) = w12 := ⟨_, rfl⟩
  rw [hw12] at h12 hB12 hgz2
  replace h12 := hide h12
  replace hB12 := hide hB12
  replace hgz2 := hide hgz2
  refine wpW_step 8 rfl (by as_aux_lemma => kernel_rfl) (fun K hK => ?_)
  go_simp
  refine hK _ _ (relY_of (IsRel.refl _)) ?_
  clear hK K
  refine wpW_step 9 rfl (by as_aux_lemma => kernel_rfl) (fun K hK => ?_)
  go_simp
  refine hK _ _ (relY_of (IsRel.refl _)) ?_
  clear hK K
  refine wpW_step 10 rfl (by as_aux_lemma => kernel_rfl) (fun K hK => ?_)
  go_simp
  refine hK _ _ (relY_wr (by as_aux_lemma => kernel_rfl)) ?_
  clear hK K hc hf hw12
  refine wpW_done (by as_aux_lemma => kernel_rfl) ?_ _
  obtain ⟨Ak, ck, hkv, -, -, -⟩ := own_isv h12.out.kids
  subst hkv
  have kx1 : w12.cell? ⟨x, 1, none⟩ = some (.slice Ak us.length ck) := blk_cell h12.out.blk 1
  have hbz12 : base ≤ w12.heap.size := by have := h12.out.hx; have := lt_of_blk h12.out.blk; omega
  go_upto_region 3 with fail
  apply wp_region_lit
  iterate 6 (refine wpList_plain rfl fun K hK => ?_; go_simp; refine hK _ _ ?_; clear hK K)
  refine wpl_lit_c (T := 109) Tryd.underlying108 info_ints rfl (by decide) (by decide) rfl (.tmp 24) (.tmp 25) rfl base (.slice Ak us.length ck) us.length us [.slice none 0 0] rfl rfl h12.out.kids rfl (by intro u hu; rw [List.mem_singleton] at hu; subst hu; rfl) hbz12 (by have := hul.out; omega) fun v13 w13 q1 q2 => ?_
  obtain ⟨A13, c13, hv13, -, -, -⟩ := own_isv q1
  subst hv13
  obtain ⟨hx13, h14⟩ := h12.out.pushK q1 q2
  have hB13 := hB12.out.trans (below_of_grown q2.grown hbz12 (fun k hk => (World.ownsRow.lt h12.out.kids k hk).1))
  have hB14 : Below base w (w13.setCell ⟨x, 1, none⟩ (.slice A13 (us.length + 1) c13)) := hB13.setCell (p := ⟨x, 1, none⟩) hbx _
  have hgz13 : w13.heap[z]? = some (.cells #[.string (str nm), .int .i64 kd, .int .i64 ab, .int .i64 wt, .bool v6, .int .u64 (hi : Int), .int .u64 (lo : Int)] 72 (0, 0)) := (q2.grown.block z (lt_of_blk hgz2.out) (fun e => hrzk.out e.symm)).trans hgz2.out
  have hgz14 : (w13.setCell ⟨x, 1, none⟩ (.slice A13 (us.length + 1) c13)).heap[z]? = some (.cells #[.string (str nm), .int .i64 kd, .int .i64 ab, .int .i64 wt, .bool v6, .int .u64 (hi : Int), .int .u64 (lo : Int)] 72 (0, 0)) := by
    obtain ⟨wq, g1, -, g3⟩ := store_cell hx13 1 (.slice A13 (us.length + 1) c13)
    rw [g1]
    exact grown_other g3 (lt_of_blk hgz13) (by omega) hgz13
  have hc := blk_cell hx13 1
  have hf := blk_free hx13 1
  clear q1 q2 hB13 hx13 hgz13 h12 hB12 hgz2 kx1
  obtain ⟨w14, hw14⟩ : ∃ w14, w13.setCell ⟨x, 1, none⟩ (.slice A13 (us.length + 1) c13) = w14 := ⟨_, rfl⟩
  rw [hw14] at h14 hB14 hgz14
  replace h14 := hide h14
  replace hB14 := hide hB14
  replace hgz14 := hide hgz14
  iterate 3 (refine wpList_plain rfl fun K hK => ?_; go_simp; refine hK _ _ ?_; clear hK K)
  refine wpList_nil ?_
  go_simp
  clear hc hf hw14
  have hgc14 := blk_cell hgz14.out
  have hbz14 : base ≤ w14.heap.size := by have := h14.out.hx; have := lt_of_blk h14.out.blk; omega
  go_upto_block 0 with fail
  go_cut [] (fun wx => (∃ tv' hv', TreeM wx base x (ns ++ [N]) (.slice A11 (L + 1) c11) (.slice A13 (us.length + 1) c13) tv' hv' (us ++ [.slice none 0 0]) (topF (ns ++ [N]) :: hostsF (ns ++ [N]) :: ((List.range ns.length).map (kidsF ns) ++ [[]]))) ∧ wx.heap[z]? = some (.cells #[.string (str nm), .int .i64 kd, .int .i64 ab, .int .i64 wt, .bool v6, .int .u64 (hi : Int), .int .u64 (lo : Int)] 72 (0, 0)) ∧ Below base w wx)
  case first =>
    clear hgc14
    by_cases k1 : kd = 1
    · have k4 : ¬ kd = 4 := by omega
      have t1 : (kd == 1) = true := by rw [k1]; rfl
      replace k1 := hide k1
      replace k4 := hide k4
      obtain ⟨At, ct, htv, -, -, -⟩ := own_isv (h14.out.rows.own 0 tv _ rfl rfl)
      subst htv
      obtain ⟨Y, hY⟩ : ∃ Y, topF ns = Y := ⟨_, rfl⟩
      have hoY := h14.out.rows.own 0 _ _ rfl rfl
      rw [hY] at hoY
      have kx2 : w14.cell? ⟨x, 2, none⟩ = some (.slice At Y.length ct) := by
        have := blk_cell h14.out.blk 2
        rw [hY] at this
        exact this
      have hYs : Y.length ≤ 1024 := by
        rw [← hY]
        unfold topF placesF placesN
        rw [List.length_map]
        have := List.length_filter_le (fun i => (ns[i]?).any (fun n => decide (n.kind = 1))) (List.range ns.length)
        rw [List.length_range] at this
        omega
      have hown14 : (Value.slice At Y.length ct).ownBlock = some z → False := hrzr.out 0 _ (by rw [← hY]; rfl)
      go_upto_region 6 with fail
      apply wp_region_lit
      iterate 7 (refine wpList_plain rfl fun K hK => ?_; go_simp; refine hK _ _ ?_; clear hK K)
      refine wpl_lit_c (T := 3) Tryd.underlying109 info_int rfl (by decide) (by decide) rfl (.tmp 37) (.tmp 39) rfl base (.slice At Y.length ct) Y.length (Y.map intv) [.int .i64 (L : Int)] rfl rfl hoY rfl (by intro u hu; rw [List.mem_singleton] at hu; subst hu; rfl) hbz14 (by omega) fun v15 w15 q1 q2 => ?_
      obtain ⟨A15, c15, hv15, -, -, -⟩ := own_isv q1
      subst hv15
      have h14' := h14.out
      rw [hY] at h14'
      obtain ⟨hx15, h16⟩ := TreeM.growT (m := (L : Int)) h14' q1 q2
      have hB15 := hB14.out.trans (below_of_grown q2.grown hbz14 (fun k hk => (World.ownsRow.lt hoY k hk).1))
      have hB16 : Below base w (w15.setCell ⟨x, 2, none⟩ (.slice A15 (Y.length + 1) c15)) := hB15.setCell (p := ⟨x, 2, none⟩) hbx _
      have hgz15 : w15.heap[z]? = some (.cells #[.string (str nm), .int .i64 kd, .int .i64 ab, .int .i64 wt, .bool v6, .int .u64 (hi : Int), .int .u64 (lo : Int)] 72 (0, 0)) := (q2.grown.block z (lt_of_blk hgz14.out) (fun e => hown14 e.symm)).trans hgz14.out
      have hgz16 : (w15.setCell ⟨x, 2, none⟩ (.slice A15 (Y.length + 1) c15)).heap[z]? = some (.cells #[.string (str nm), .int .i64 kd, .int .i64 ab, .int .i64 wt, .bool v6, .int .u64 (hi : Int), .int .u64 (lo : Int)] 72 (0, 0)) := by
        obtain ⟨wq, g1, -, g3⟩ := store_cell hx15 2 (.slice A15 (Y.length + 1) c15)
        rw [g1]
        exact grown_other g3 (lt_of_blk hgz15) (by omega) hgz15
      have hc := blk_cell hx15 2
      have hf := blk_free hx15 2
      clear q1 q2 hB15 hx15 hgz15 h14' kx2
      obtain ⟨w16, hw16⟩ : ∃ w16, w15.setCell ⟨x, 2, none⟩ (.slice A15 (Y.length + 1) c15) = w16 := ⟨_, rfl⟩
      rw [hw16] at h16 hB16 hgz16
      replace h16 := hide h16
      replace hB16 := hide hB16
      replace hgz16 := hide hgz16
      replace hoY := hide hoY
      replace hY := hide hY
      iterate 3 (refine wpList_plain rfl fun K hK => ?_; go_simp; refine hK _ _ ?_; clear hK K)
      refine wpList_nil ?_
      go_simp
      clear hc hf hw16
      go_wp2_with fail
      go_meet
      exact ⟨⟨_, _, by have := h16.out; rw [← hY.out] at this; rw [htm.out, hhm.out, if_pos k1.out, if_neg k4.out, hL]; rw [hL] at this; exact this⟩, hgz16.out, hB16.out⟩
    by_cases k4 : kd = 4
    · have t1 : (kd == 1) = false := by rw [k4]; rfl
      have t4 : (kd == 4) = true := by rw [k4]; rfl
      replace k1 := hide k1
      replace k4 := hide k4
      obtain ⟨At, ct, htv, -, -, -⟩ := own_isv (h14.out.rows.own 1 hv _ rfl rfl)
      subst htv
      obtain ⟨Y, hY⟩ : ∃ Y, hostsF ns = Y := ⟨_, rfl⟩
      have hoY := h14.out.rows.own 1 _ _ rfl rfl
      rw [hY] at hoY
      have kx2 : w14.cell? ⟨x, 3, none⟩ = some (.slice At Y.length ct) := by
        have := blk_cell h14.out.blk 3
        rw [hY] at this
        exact this
      have hYs : Y.length ≤ 1024 := by
        rw [← hY]
        unfold hostsF placesF placesN
        rw [List.length_map]
        have := List.length_filter_le (fun i => (ns[i]?).any (fun n => decide (n.kind = 4))) (List.range ns.length)
        rw [List.length_range] at this
        omega
      have hown14 : (Value.slice At Y.length ct).ownBlock = some z → False := hrzr.out 1 _ (by rw [← hY]; rfl)
      go_upto_region 8 with fail
      apply wp_region_lit
      iterate 7 (refine wpList_plain rfl fun K hK => ?_; go_simp; refine hK _ _ ?_; clear hK K)
      refine wpl_lit_c (T := 3) Tryd.underlying109 info_int rfl (by decide) (by decide) rfl (.tmp 49) (.tmp 51) rfl base (.slice At Y.length ct) Y.length (Y.map intv) [.int .i64 (L : Int)] rfl rfl hoY rfl (by intro u hu; rw [List.mem_singleton] at hu; subst hu; rfl) hbz14 (by omega) fun v15 w15 q1 q2 => ?_
      obtain ⟨A15, c15, hv15, -, -, -⟩ := own_isv q1
      subst hv15
      have h14' := h14.out
      rw [hY] at h14'
      obtain ⟨hx15, h16⟩ := TreeM.growH (m := (L : Int)) h14' q1 q2
      have hB15 := hB14.out.trans (below_of_grown q2.grown hbz14 (fun k hk => (World.ownsRow.lt hoY k hk).1))
      have hB16 : Below base w (w15.setCell ⟨x, 3, none⟩ (.slice A15 (Y.length + 1) c15)) := hB15.setCell (p := ⟨x, 3, none⟩) hbx _
      have hgz15 : w15.heap[z]? = some (.cells #[.string (str nm), .int .i64 kd, .int .i64 ab, .int .i64 wt, .bool v6, .int .u64 (hi : Int), .int .u64 (lo : Int)] 72 (0, 0)) := (q2.grown.block z (lt_of_blk hgz14.out) (fun e => hown14 e.symm)).trans hgz14.out
      have hgz16 : (w15.setCell ⟨x, 3, none⟩ (.slice A15 (Y.length + 1) c15)).heap[z]? = some (.cells #[.string (str nm), .int .i64 kd, .int .i64 ab, .int .i64 wt, .bool v6, .int .u64 (hi : Int), .int .u64 (lo : Int)] 72 (0, 0)) := by
        obtain ⟨wq, g1, -, g3⟩ := store_cell hx15 3 (.slice A15 (Y.length + 1) c15)
        rw [g1]
        exact grown_other g3 (lt_of_blk hgz15) (by omega) hgz15
      have hc := blk_cell hx15 3
      have hf := blk_free hx15 3
      clear q1 q2 hB15 hx15 hgz15 h14' kx2
      obtain ⟨w16, hw16⟩ : ∃ w16, w15.setCell ⟨x, 3, none⟩ (.slice A15 (Y.length + 1) c15) = w16 := ⟨_, rfl⟩
      rw [hw16] at h16 hB16 hgz16
      replace h16 := hide h16
      replace hB16 := hide hB16
      replace hgz16 := hide hgz16
      replace hoY := hide hoY
      replace hY := hide hY
      iterate 3 (refine wpList_plain rfl fun K hK => ?_; go_simp; refine hK _ _ ?_; clear hK K)
      refine wpList_nil ?_
      go_simp
      clear hc hf hw16
      go_wp2_with fail
      go_meet
      exact ⟨⟨_, _, by have := h16.out; rw [← hY.out] at this; rw [htm.out, hhm.out, if_neg k1.out, if_pos k4.out, hL]; rw [hL] at this; exact this⟩, hgz16.out, hB16.out⟩
    have t1 : (kd == 1) = false := by rw [beq_eq_false_iff_ne]; exact k1
    have t4 : (kd == 4) = false := by rw [beq_eq_false_iff_ne]; exact k4
    go_wp2_with fail
    go_meet
    exact ⟨⟨_, _, by rw [htm.out, hhm.out, if_neg k1, if_neg k4]; exact h14.out⟩, hgz14.out, hB14.out⟩
  case rest =>
  obtain ⟨⟨tv', hv', hM⟩, hgw, hBw⟩ := hcut
  clear h14 hgz14 hB14 hgc14 hbz14
  have hgwc := blk_cell hgw
  have hzw := lt_of_blk hgw
  have hrN : ∀ m ∈ ns ++ [N], m.above < ((ns ++ [N]).length : Int) := by
    intro m hm
    rw [List.length_append, List.length_singleton]
    rcases List.mem_append.1 hm with h9 | h9
    · have := hsm.out.2 m h9
      omega
    · rw [List.mem_singleton] at h9
      rw [h9, hNa.out]
      omega
  have hsm2 : (ns ++ [N]).length ≤ 1024 ∧ (∀ m ∈ ns ++ [N], m.above < ((ns ++ [N]).length : Int)) := ⟨by rw [List.length_append, List.length_singleton]; omega, hrN⟩
  have hlen2 : (ns ++ [N]).length = L + 1 := by rw [List.length_append, List.length_singleton, hL]
  by_cases h0 : 0 ≤ ab
  case neg =>
    have hfin : TreeAt wc base x (ns ++ [N]) := ⟨_, _, _, _, _, hM.blk, hM.hx, hM.nodes, by have := hM.kids; rw [show (us ++ [Value.slice none 0 0]).length = (ns ++ [N]).length by simp [hul.out]] at this; exact this, by rw [hkm.out, if_neg h0]; exact hM.rows, hsm2⟩
    clear hgw hM
    replace hfin := hide hfin
    replace hBw := hide hBw
    go_wp2_with fail
    exact bodyPost_end (v := .tuple #[]) (by simp [results, Tryd.results46, go_sem]) rfl ⟨rfl, hfin.out, hBw.out⟩
  obtain ⟨a, rfl⟩ : ∃ a : Nat, ab = (a : Int) := ⟨ab.toNat, by omega⟩
  have haL : a < us.length := by rw [hul.out]; omega
  obtain ⟨v, hva⟩ : ∃ v, us[a]? = some v := ⟨_, List.getElem?_eq_getElem haL⟩
  have hva2 : (us ++ [Value.slice none 0 0])[a]? = some v := by rw [List.getElem?_append_left haL]; exact hva
  have hxa : (topF (ns ++ [N]) :: hostsF (ns ++ [N]) :: ((List.range ns.length).map (kidsF ns) ++ [[]]))[a + 2]? = some (kidsF ns a) := by
    rw [List.getElem?_cons_succ, List.getElem?_cons_succ, List.getElem?_append_left (by simp; omega), List.getElem?_map, List.getElem?_range (by omega)]
    rfl
  have hoV := hM.rows.own (a + 2) v (kidsF ns a) hva2 hxa
  have hYs : (kidsF ns a).length ≤ 1024 := by
    unfold kidsF placesF placesN
    rw [List.length_map]
    have := List.length_filter_le (fun i => (ns[i]?).any (fun n => decide (n.above = (a : Int)))) (List.range ns.length)
    rw [List.length_range] at this
    omega
  have hvz := hrzr.out (a + 2) v hva
  obtain ⟨Y, hY⟩ : ∃ Y, kidsF ns a = Y := ⟨_, rfl⟩
  rw [hY] at hoV hYs hxa
  obtain ⟨Av, cv, hvv, -, -, -⟩ := own_isv hoV
  obtain ⟨gk, ck2, cur, ek, hgkb, -, -, hgk, hck, -, hcv⟩ := row_upd hM.kids (i := a) (by rw [List.length_append]; omega) v
  have hcv2 : cur[a]? = some v := by rw [← hcv]; exact hva2
  have hek : A13 = some ⟨gk, 0, none⟩ ∧ c13 = ck2 := by
    simp only [Value.slice.injEq] at ek
    exact ⟨ek.1, ek.2.2⟩
  obtain ⟨rfl, rfl⟩ := hek
  have hrx := row_not_x hoV hM.blk (by decide)
  have hrg := row_not_x hoV hgk (by decide)
  have hxlt := lt_of_blk hM.blk
  have hglt := lt_of_blk hgk
  have hbzw : base ≤ wc.heap.size := by omega
  subst hvv
  have ia : (a : Int) < (us.length : Int) + 1 := by omega
  clear hcv ek
  replace hM := hide hM
  replace hgw := hide hgw
  replace hBw := hide hBw
  replace hoV := hide hoV
  replace hgk := hide hgk
  go_upto_region 10 with fail
  refine wp_region_Y [18] (KeptS wc.heap.size (fun k => (Value.slice Av Y.length cv).ownBlock = some k)) (by as_aux_lemma => kernel_rfl) ?_
  intro we hbd
  have hMe := hM.out.on hbd
  have hge := blk_below hbd hzw hgw.out
  have hke := blk_below hbd hglt hgk.out
  have hBe := hBw.out.trans (hbd.mono hbzw)
  have ze := hbd.size
  have lx := fun l : RelW (KeptS wc.heap.size (fun k => (Value.slice Av Y.length cv).ownBlock = some k)) we => (show l.w.cell? ⟨x, 1, none⟩ = some (.slice (some ⟨gk, 0, none⟩) (us.length + 1) c13) from blk_cell ((l.hk.block x hxlt (by rcases hrx with e | e <;> (intro e2; first | (rw [e] at e2; cases e2) | exact e e2))).trans hMe.blk) 1)
  have lz := fun l : RelW (KeptS wc.heap.size (fun k => (Value.slice Av Y.length cv).ownBlock = some k)) we => blk_cell ((l.hk.block z hzw hvz).trans hge)
  have lg := fun l : RelW (KeptS wc.heap.size (fun k => (Value.slice Av Y.length cv).ownBlock = some k)) we => (blk_cell ((l.hk.block gk hglt (by rcases hrg with e | e <;> (intro e2; first | (rw [e] at e2; cases e2) | exact e e2))).trans hke) a).trans hcv2
  clear hM hgw hBw hgk hbd hrx hrg hgwc
  replace hMe := hide hMe
  replace hBe := hide hBe
  replace hke := hide hke
  replace hge := hide hge
  refine wpY_seg [18] (KeptS wc.heap.size (fun k => (Value.slice Av Y.length cv).ownBlock = some k)) 0 15 (fuel := 4) (by as_aux_lemma => kernel_rfl) (fun d _ _ _ _ h => by cases d <;> exact h) (by as_aux_lemma => kernel_rfl) (by as_aux_lemma => kernel_rfl) (by as_aux_lemma => kernel_rfl) ?_
  simp only [List.drop_zero, List.take_succ_cons, List.take_zero]
  iterate 15 (refine wpQX_step (fun K hK => ?_); go_simp; refine hK _ ?_; clear hK K)
  refine wpQF_nil ?_
  clear lx lz lg
  refine wpW_step 15 rfl (by as_aux_lemma => kernel_rfl) (fun K hK => ?_)
  go_simp
  refine hK _ _ (relY_of (keptS_of_below ((Below.refl _ _).alloc (Nat.le_refl _) _) ze)) ?_
  clear hK K
  obtain ⟨wt2', hwt⟩ : ∃ wt2', we.alloc (.cells #[.int .i64 (L : Int)] 3) = wt2' := ⟨_, rfl⟩
  have hbt : Below we.heap.size we wt2' := hwt ▸ (Below.refl _ _).alloc (Nat.le_refl _) _
  have hnt : wt2'.heap[we.heap.size]? = some (.cells ([.int .i64 (L : Int)] : List Value).toArray 3 (0, 0)) := hwt ▸ blk_new _ _ _
  change wpW _ _ _ _ _ _ _ _ (we.alloc (.cells #[.int .i64 (L : Int)] 3))
  rw [hwt]
  have hMt := hMe.out.on hbt
  have hBt := hBe.out.trans (hbt.mono (by omega))
  have zt := hbt.size
  clear hwt hbt hMe hBe hke hge
  refine wpW_step 16 rfl (by as_aux_lemma => kernel_rfl) (fun K hK => ?_)
  rw [if_pos (by unfold Region.wanted; rfl)]
  refine wp_app_c (T := 3) Tryd.underlying109 info_int rfl (by decide) (by decide) (.tmp 71) (.tmp 73) rfl base (.slice Av Y.length cv) Y.length (Y.map intv) [.int .i64 (L : Int)] we.heap.size rfl rfl (hMt.rows.own (a + 2) _ _ hva2 hxa) hnt rfl (by intro u hu; rw [List.mem_singleton] at hu; subst hu; rfl) (by omega) (by omega) fun v11 w11 q1 q2 => hK _ _ (relY_of ⟨q2.grown.os, q2.grown.tape, q2.grown.output, q2.grown.size, fun k hk hne => q2.grown.block k (by omega) (fun e => hne e.symm)⟩) ?_
  clear hK K hnt
  obtain ⟨A21, c21, hv21, -, -, -⟩ := own_isv q1
  subst hv21
  obtain ⟨gk2, ck3, cur2, ek2, hgk2b, hgk2, hcur2, hM2⟩ := hMt.growK (a := a) (m := (L : Int)) hva2 hxa q1 q2
  obtain ⟨rfl, rfl⟩ : gk = gk2 ∧ c13 = ck3 := by
    simp only [Value.slice.injEq, Option.some.injEq, Addr.mk.injEq] at ek2
    exact ⟨ek2.1.1, ek2.2.2⟩
  have hB11 := hBt.trans (below_of_grown q2.grown (by omega) (fun k hk => (World.ownsRow.lt (hMt.rows.own (a + 2) _ _ hva2 hxa) k hk).1))
  have hB12 : Below base w (w11.setCell ⟨gk, a, none⟩ (.slice A21 (Y.length + 1) c21)) := hB11.setCell (p := ⟨gk, a, none⟩) hgk2b _
  have hc := (blk_cell hgk2 a).trans hcur2
  have hf := blk_free hgk2 a
  obtain ⟨w12', hw12⟩ : ∃ w12', w11.setCell ⟨gk, a, none⟩ (.slice A21 (Y.length + 1) c21) = w12' := ⟨_, rfl⟩
  rw [hw12] at hM2 hB12
  have hfin : TreeAt w12' base x (ns ++ [N]) := ⟨_, _, _, _, _, hM2.blk, hM2.hx, hM2.nodes, by have := hM2.kids; rw [List.length_set, show (us ++ [Value.slice none 0 0]).length = (ns ++ [N]).length by simp [hul.out]] at this; exact this, by have hr9 := hM2.rows; rw [hL] at hr9; rw [hkm.out, if_pos h0, Int.toNat_natCast, hY, hL]; exact hr9, hsm2⟩
  clear q1 q2 hMt hBt hB11 hM2 hgk2 hcur2 ek2
  replace hfin := hide hfin
  replace hB12 := hide hB12
  refine wpW_step 17 rfl (by as_aux_lemma => kernel_rfl) (fun K hK => ?_)
  go_simp
  refine hK _ _ (relY_of (IsRel.refl _)) ?_
  clear hK K
  refine wpW_step 18 rfl (by as_aux_lemma => kernel_rfl) (fun K hK => ?_)
  go_simp
  refine hK _ _ (relY_wr (by as_aux_lemma => kernel_rfl)) ?_
  clear hK K hc hf hw12
  refine wpW_done (by as_aux_lemma => kernel_rfl) ?_ _
  exact bodyPost_end (v := .tuple #[]) (by simp [results, Tryd.results46, go_sem]) rfl ⟨rfl, hfin.out, hB12.out⟩
end Tree16
end Go.Proofs.YtcpokkkdmenmgaaDoor
/- store, plain: a weight that is set leaves a configuration that may be; which node a name is of. No condition. -/
namespace Go.Proofs.YtcpokkkdmenmgaaDoor
open Go.RowKit Go.ChangeShapes Go.WideShapes Go.ChangeAt Go.Deep
namespace Store20
open Conf18 (Nd Vp Vw Cfg zA)
open Addr05 (Adr)
open Tree16
open Val19
/-- A node without its weight. -/
def er (n : Nd) : Nd := { n with weight := 0 }
theorem clash_er (n x : Nd) : clash (er n) (er x) = clash n x := rfl
theorem any_er {l l' : List Nd} {n n' : Nd} (hl : l.map er = l'.map er) (hn : er n = er n') : l.any (clash n) = l'.any (clash n') := by
  have h : ∀ (l : List Nd) (n : Nd), l.any (clash n) = (l.map er).any (clash (er n)) := by
    intro l n
    rw [List.any_map]
    rfl
  rw [h l n, h l' n', hl, hn]
theorem placesN_er (p : Nd → Bool) (hp : ∀ n, p (er n) = p n) {l l' : List Nd} (hl : l.map er = l'.map er) : placesN p l = placesN p l' := by
  have h : ∀ l : List Nd, placesN p l = placesN p (l.map er) := by
    intro l
    unfold placesN
    rw [List.length_map]
    refine List.filter_congr fun i _ => ?_
    rw [List.getElem?_map]
    rcases l[i]? with _ | n
    · rfl
    · simp [hp n]
  rw [h l, h l', hl]
theorem topF_er {l l' : List Nd} (hl : l.map er = l'.map er) : topF l = topF l' := by
  unfold topF placesF
  rw [placesN_er _ (fun n => rfl) hl]
theorem hostsF_er {l l' : List Nd} (hl : l.map er = l'.map er) : hostsF l = hostsF l' := by
  unfold hostsF placesF
  rw [placesN_er _ (fun n => rfl) hl]
theorem getD_er {l l' : List Nd} {n n' : Nd} (hl : l.map er = l'.map er) (hn : er n = er n') (i : Nat) : (l.getD i n).kind = (l'.getD i n').kind := by
  have h : ∀ (l : List Nd) (n : Nd), (l.getD i n).kind = ((l.map er).getD i (er n)).kind := by
    intro l n
    rw [List.getD_eq_getElem?_getD, List.getD_eq_getElem?_getD, List.getElem?_map]
    rcases l[i]? with _ | n <;> rfl
  rw [h l n, h l' n', hl, hn]
/-- Whether a node may be hangs on weights in its own range alone. -/
theorem bad_er {l l' : List Nd} {n n' : Nd} (hl : l.map er = l'.map er) (hn : er n = er n') (hw : ¬(n'.weight < 0 ∨ 65535 < n'.weight ∨ (n'.kind = 1 ∧ n'.weight ≠ 0))) (h : badF n l = 0) : badF n' l' = 0 := by
  have hlen : l.length = l'.length := by
    have := congrArg List.length hl
    rwa [List.length_map, List.length_map] at this
  have e1 : n.name = n'.name := (congrArg Nd.name hn : (er n).name = (er n').name)
  have e2 : n.kind = n'.kind := (congrArg Nd.kind hn : (er n).kind = (er n').kind)
  have e3 : n.above = n'.above := (congrArg Nd.above hn : (er n).above = (er n').above)
  have e4 : n.a = n'.a := (congrArg Nd.a hn : (er n).a = (er n').a)
  have hr : rightF n l = 0 → rightF n' l' = 0 := by
    intro h
    unfold rightF at h ⊢
    rw [if_neg hw]
    rw [← e1, ← e2, ← e3, ← e4, ← hlen, ← any_er hl hn, ← getD_er hl hn]
    split at h
    · cases h
    · rename_i a1
      rw [if_neg a1]
      split at h
      · cases h
      · exact h
  unfold badF at h ⊢
  by_cases h1 : rightF n l = 0
  · rw [if_neg (fun h2 => h2 h1)] at h
    rw [if_neg (fun h2 => h2 (hr h1)), ← e2, ← hlen, ← topF_er hl, ← hostsF_er hl]
    exact h
  · rw [if_pos h1] at h
    exact absurd h h1
theorem treeE_iff (l : List Nd) : ∀ i, treeE l i = none ↔ ∀ (j : Nat) (n : Nd), j < i → l[j]? = some n → badF n (l.take j) = 0
  | 0 => ⟨fun _ j n hj => by omega, fun _ => rfl⟩
  | i + 1 => by
    have ih := treeE_iff l i
    constructor
    · intro h j n hj hn
      rw [treeE] at h
      rcases e : treeE l i with _ | p
      · rw [e] at h
        by_cases hji : j = i
        · subst hji
          rw [hn] at h
          dsimp only at h
          by_cases hb : badF n (l.take j) = 0
          · exact hb
          · rw [if_pos hb] at h
            cases h
        · exact ih.1 e j n (by omega) hn
      · rw [e] at h
        cases h
    · intro h
      have e := ih.2 fun j n hj hn => h j n (by omega) hn
      rw [treeE, e]
      rcases hn : l[i]? with _ | n
      · rfl
      · exact if_neg fun h2 => h2 (h i n (by omega) hn)
theorem treeF_iff (l : List Nd) : treeF l = none ↔ ∀ (j : Nat) (n : Nd), l[j]? = some n → badF n (l.take j) = 0 := by
  unfold treeF
  rw [treeE_iff]
  exact ⟨fun h j n hn => h j n (List.getElem?_eq_some_iff.1 hn).1 hn, fun h j n _ hn => h j n hn⟩
theorem bad_right {n : Nd} {l : List Nd} (h : badF n l = 0) : rightF n l = 0 ∧ ¬(1024 ≤ l.length ∨ (n.kind = 1 ∧ 4 ≤ (topF l).length) ∨ (n.kind = 4 ∧ 512 ≤ (hostsF l).length)) := by
  unfold badF at h
  by_cases h1 : rightF n l = 0
  · rw [if_neg (fun h2 => h2 h1)] at h
    refine ⟨h1, fun h3 => ?_⟩
    rw [if_pos h3] at h
    cases h
  · rw [if_pos h1] at h
    exact absurd h h1
theorem right_parts {n : Nd} {l : List Nd} (h : rightF n l = 0) : ¬(nameF n.name = false ∨ n.kind < 1 ∨ 4 < n.kind) ∧ ¬(n.weight < 0 ∨ 65535 < n.weight ∨ (n.kind = 1 ∧ n.weight ≠ 0)) ∧ ¬((n.kind = 1 ∧ n.above ≠ -1) ∨ (1 < n.kind ∧ (n.above < 0 ∨ (l.length : Int) ≤ n.above))) ∧ ¬(1 < n.kind ∧ (l.getD n.above.toNat n).kind ≠ n.kind - 1) ∧ ¬(rightA n.a = false ∨ (n.kind ≠ 4 ∧ n.a ≠ zA)) ∧ ¬(l.any (clash n)) = true := by
  unfold rightF at h
  repeat' split at h
  all_goals first | (cases h; done) | skip
  rename_i a1 a2 a3 a4 a5 a6
  exact ⟨a1, a2, a3, a4, a5, a6⟩
/-- Two nodes of a tree have two names. -/
theorem names_apart {l : List Nd} (h : treeF l = none) {i j : Nat} {n m : Nd} (hn : l[i]? = some n) (hm : l[j]? = some m) (he : n.name = m.name) : i = j := by
  have key : ∀ {i j : Nat} {n m : Nd}, l[i]? = some n → l[j]? = some m → n.name = m.name → ¬ i < j := by
    intro i j n m hn hm he hij
    have h1 := (right_parts (bad_right ((treeF_iff l).1 h j m hm)).1).2.2.2.2.2
    apply h1
    rw [List.any_eq_true]
    refine ⟨n, List.mem_of_getElem? (i := i) (by rw [List.getElem?_take, if_pos hij]; exact hn), ?_⟩
    unfold clash
    exact decide_eq_true (.inl he)
  have h1 := key hn hm he
  have h2 := key hm hn he.symm
  omega
/-- A node's weight is set. -/
def wtN (ns : List Nd) (k : Nat) (x : Int) : List Nd := match ns[k]? with
  | none => ns
  | some n => ns.set k { n with weight := x }
theorem wtN_er (ns : List Nd) (k : Nat) (x : Int) : (wtN ns k x).map er = ns.map er := by
  unfold wtN
  rcases e : ns[k]? with _ | n
  · rfl
  · dsimp only
    rw [List.map_set]
    refine List.ext_getElem? fun i => ?_
    by_cases hi : i = k
    · subst hi
      rw [List.getElem?_set, List.getElem?_map, e]
      simp only [if_pos, List.length_map, (List.getElem?_eq_some_iff.1 e).1]
      rfl
    · rw [List.getElem?_set_ne (Ne.symm hi)]
theorem wtN_len (ns : List Nd) (k : Nat) (x : Int) : (wtN ns k x).length = ns.length := by
  have := congrArg List.length (wtN_er ns k x)
  rwa [List.length_map, List.length_map] at this
theorem wtN_get {ns : List Nd} {k : Nat} {n : Nd} (hk : ns[k]? = some n) (x : Int) (j : Nat) (m : Nd) (h : (wtN ns k x)[j]? = some m) : (j = k ∧ m = { n with weight := x }) ∨ (j ≠ k ∧ ns[j]? = some m) := by
  unfold wtN at h
  rw [hk] at h
  dsimp only at h
  by_cases hj : j = k
  · subst hj
    rw [List.getElem?_set_self (List.getElem?_eq_some_iff.1 hk).1] at h
    exact .inl ⟨rfl, (Option.some.inj h).symm⟩
  · rw [List.getElem?_set_ne (Ne.symm hj)] at h
    exact .inr ⟨hj, h⟩
theorem treeF_wt {ns : List Nd} {k : Nat} {n : Nd} (h : treeF ns = none) (hk : ns[k]? = some n) (h4 : n.kind = 4) {x : Int} (h0 : 0 ≤ x) (h1 : x ≤ 65535) : treeF (wtN ns k x) = none := by
  rw [treeF_iff] at h ⊢
  intro j m hm
  have htake : (ns.take j).map er = ((wtN ns k x).take j).map er := by rw [List.map_take, List.map_take, wtN_er]
  rcases wtN_get hk x j m hm with ⟨rfl, rfl⟩ | ⟨hj, hm2⟩
  · exact bad_er (n := n) htake rfl (by simp only; omega) (h j n hk)
  · exact bad_er htake rfl (right_parts (bad_right (h j m hm2)).1).2.1 (h j m hm2)
def setW (c : Cfg) (k : Nat) (x : Int) : Cfg := { c with nodes := wtN c.nodes k x }
theorem validF_parts {c : Cfg} (h : validF c = 0) : plainF c = 0 ∧ treeF c.nodes = none ∧ selfB c = true ∧ rowE Val19.vipF c.vips c.vips.length = 0 ∧ rowE (fun v l => viewG v l (topF c.nodes).length) c.views c.views.length = 0 := by
  unfold validF at h
  by_cases h1 : plainF c = 0
  · rw [if_neg (fun h2 => h2 h1)] at h
    rcases e : treeF c.nodes with _ | p
    · rw [e] at h
      dsimp only at h
      by_cases h2 : selfB c = false
      · rw [if_pos h2] at h; cases h
      · rw [if_neg h2] at h
        by_cases h3 : rowE Val19.vipF c.vips c.vips.length = 0
        · rw [if_neg (fun h4 => h4 h3)] at h
          exact ⟨h1, rfl, by simpa using h2, h3, h⟩
        · rw [if_pos h3] at h
          exact absurd h h3
    · rw [e] at h
      dsimp only at h
      exfalso
      have : p.2 ≠ 0 := by
        have key : ∀ i, treeE c.nodes i = some p → p.2 ≠ 0 := by
          intro i
          induction i with
          | zero => intro h; cases h
          | succ i ih =>
            intro h
            rw [treeE] at h
            rcases e1 : treeE c.nodes i with _ | q
            · rw [e1] at h
              rcases e2 : c.nodes[i]? with _ | n
              · rw [e2] at h; cases h
              · rw [e2] at h
                dsimp only at h
                by_cases hb : badF n (c.nodes.take i) = 0
                · rw [if_neg (fun h2 => h2 hb)] at h; cases h
                · rw [if_pos hb] at h
                  cases h
                  exact hb
            · rw [e1] at h
              cases h
              exact ih e1
        exact key _ e
      exact this h
  · rw [if_pos h1] at h
    exact absurd h h1
theorem validF_mk {c : Cfg} (h1 : plainF c = 0) (h2 : treeF c.nodes = none) (h3 : selfB c = true) (h4 : rowE Val19.vipF c.vips c.vips.length = 0) (h5 : rowE (fun v l => viewG v l (topF c.nodes).length) c.views c.views.length = 0) : validF c = 0 := by
  unfold validF
  rw [if_neg (fun h => h h1), h2]
  dsimp only
  rw [if_neg (by rw [h3]; decide), if_neg (fun h => h h4)]
  exact h5
/-- A host's weight may be set. -/
theorem valid_wt {c : Cfg} {k : Nat} {n : Nd} (h : validF c = 0) (hk : c.nodes[k]? = some n) (h4 : n.kind = 4) {x : Int} (h0 : 0 ≤ x) (h1 : x ≤ 65535) : validF (setW c k x) = 0 := by
  obtain ⟨a1, a2, a3, a4, a5⟩ := validF_parts h
  refine validF_mk a1 (treeF_wt a2 hk h4 h0 h1) ?_ a4 ?_
  · have hs : ∀ (c : Cfg), selfB c = (c.nodes.map er).all (selfN c) := by
      intro c
      unfold selfB
      rw [List.all_map]
      rfl
    rw [hs] at a3 ⊢
    show ((wtN c.nodes k x).map er).all (selfN c) = true
    rw [wtN_er]
    exact a3
  · show rowE (fun v l => viewG v l (topF (wtN c.nodes k x)).length) c.views c.views.length = 0
    rw [topF_er (wtN_er c.nodes k x)]
    exact a5
/-- The place of the host of a name. -/
def hostOf (ns : List Nd) (s : List UInt8) : Option Nat := match ns.findIdx? (fun n => decide (n.name = s)) with
  | none => none
  | some k => match ns[k]? with
    | none => none
    | some n => if n.kind = 4 then some k else none
theorem hostOf_hit {ns : List Nd} (h : treeF ns = none) {s : List UInt8} {k : Nat} {n : Nd} (hk : ns[k]? = some n) (hs : n.name = s) (h4 : n.kind = 4) : hostOf ns s = some k := by
  have hkl := (List.getElem?_eq_some_iff.1 hk).1
  unfold hostOf
  rcases e : ns.findIdx? (fun n => decide (n.name = s)) with _ | j
  · rw [List.findIdx?_eq_none_iff] at e
    have := e n (List.mem_of_getElem? hk)
    simp [hs] at this
  · have e' := e
    rw [List.findIdx?_eq_some_iff_getElem] at e'
    obtain ⟨hj, he, _⟩ := e'
    have hj1 : ns[j]? = some (ns[j]) := List.getElem?_eq_getElem hj
    have : j = k := names_apart h hj1 hk (by rw [hs]; simpa using he)
    subst this
    rw [e]
    dsimp only
    rw [hk]
    exact if_pos h4
theorem hostOf_miss {ns : List Nd} {s : List UInt8} (h : ∀ (j : Nat) (n : Nd), ns[j]? = some n → ¬(n.name = s ∧ n.kind = 4)) : hostOf ns s = none := by
  unfold hostOf
  rcases e : ns.findIdx? (fun n => decide (n.name = s)) with _ | j
  · rw [e]
  · have e' := e
    rw [List.findIdx?_eq_some_iff_getElem] at e'
    obtain ⟨hj, he, _⟩ := e'
    rw [e]
    dsimp only
    rw [List.getElem?_eq_getElem hj]
    exact if_neg fun h4 => h j _ (List.getElem?_eq_getElem hj) ⟨by simpa using he, h4⟩
theorem hostOf_some {ns : List Nd} {s : List UInt8} {k : Nat} (h : hostOf ns s = some k) : ∃ n, ns[k]? = some n ∧ n.name = s ∧ n.kind = 4 ∧ findF ns s = (k : Int) := by
  unfold hostOf at h
  rcases e : ns.findIdx? (fun n => decide (n.name = s)) with _ | j
  · rw [e] at h; cases h
  · rw [e] at h
    dsimp only at h
    rcases e2 : ns[j]? with _ | n
    · rw [e2] at h; cases h
    · rw [e2] at h
      dsimp only at h
      by_cases h4 : n.kind = 4
      · rw [if_pos h4] at h
        cases h
        have e3 := e
        rw [List.findIdx?_eq_some_iff_getElem] at e3
        obtain ⟨hj, he, _⟩ := e3
        refine ⟨n, e2, ?_, h4, by unfold findF; rw [e]⟩
        rw [List.getElem?_eq_getElem hj] at e2
        cases e2
        simpa using he
      · rw [if_neg h4] at h; cases h
/-! ### The store. -/
structure St where
  c : Option Cfg
  gen : Nat
  sets : List UInt8 → Option Nat
def loadS (S : St) (t : List UInt8) : St × Int × Int := match Conf18.confF t with
  | .error p => (S, (p.1 : Int), p.2)
  | .ok c => if validF c ≠ 0 then (S, 0, (validF c : Int)) else (⟨some c, S.gen + 1, fun _ => none⟩, 0, 0)
def weightS (S : St) (s : List UInt8) (x : Int) : St × Nat := match S.c with
  | none => (S, 9)
  | some c => if x < 0 ∨ 65535 < x then (S, 17) else match hostOf c.nodes s with
    | none => (S, 7)
    | some k => (⟨some (setW c k x), S.gen + 1, fun y => if y = s then some x.toNat else S.sets y⟩, 0)
def St.ok (S : St) (M : Nat) : Prop := ∀ c, S.c = some c → validF c = 0 ∧ c.good M
theorem good_wt {c : Cfg} {M k : Nat} {n : Nd} {x : Int} (h : c.good M) (hk : c.nodes[k]? = some n) : (setW c k x).good M := by
  refine ⟨fun m hm => ?_, h.vips, h.views, h.s0, h.s1⟩
  obtain ⟨j, hj⟩ := List.mem_iff_getElem?.1 hm
  rcases wtN_get hk x j m hj with ⟨rfl, rfl⟩ | ⟨_, hm2⟩
  · exact h.nodes n (List.mem_of_getElem? hk)
  · exact h.nodes m (List.mem_of_getElem? hm2)
theorem load_ok {S : St} {M : Nat} (h : S.ok M) {t : List UInt8} (ht : t.length ≤ M) : (loadS S t).1.ok M := by
  unfold loadS
  rcases e : Conf18.confF t with p | c
  · exact h
  · dsimp only
    split
    · exact h
    · rename_i hv
      intro c2 hc
      cases hc
      refine ⟨Decidable.byContradiction hv, ?_⟩
      have hg := Conf18.confF_good e
      exact ⟨fun n hn => ⟨(hg.nodes n hn).1, Nat.le_trans (hg.nodes n hn).2 ht⟩, hg.vips, hg.views, hg.s0, hg.s1⟩
theorem weight_ok {S : St} {M : Nat} (h : S.ok M) (s : List UInt8) (x : Int) : (weightS S s x).1.ok M := by
  unfold weightS
  rcases e : S.c with _ | c
  · exact h
  · dsimp only
    split
    · exact h
    · rename_i hx
      rcases e2 : hostOf c.nodes s with _ | k
      · exact h
      · dsimp only
        obtain ⟨n, h1, h2, h3, h4⟩ := hostOf_some e2
        intro c2 hc
        cases hc
        obtain ⟨g1, g2⟩ := h c e
        exact ⟨valid_wt g1 h1 h3 (by omega) (by omega), good_wt g2 h1⟩
end Store20
end Go.Proofs.YtcpokkkdmenmgaaDoor
