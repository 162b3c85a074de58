/- conf, plain: how long a configuration's text with remarks is. No condition. -/
import Derived.Test.YtcpokkkdmenmgaaDoorQConfRemarks19
import Derived.Test.YtcpokkkdmenmgaaDoorQConfRemarks11
import Derived.Test.YtcpokkkdmenmgaaDoorQConfRemarks13
import Derived.Test.YtcpokkkdmenmgaaDoorQConfRemarks12
import Derived.Test.YtcpokkkdmenmgaaDoorQConfRemarks8
import Derived.Test.YtcpokkkdmenmgaaDoorQConfRemarks3
namespace Go.Proofs.YtcpokkkdmenmgaaDoor
open Go.RowKit Go.ChangeShapes Go.WideShapes Go.ChangeAt Go.Deep
namespace Conf18
open Addr05
theorem tailM_len : ∀ (r : List (List UInt8)), (∀ y ∈ r, y.length ≤ 60) → (tailM r).length ≤ 63 * r.length
  | [], _ => Nat.zero_le _
  | y :: r, h => by
    have h1 := h y List.mem_cons_self
    have h2 := tailM_len r fun z hz => h z (List.mem_cons_of_mem _ hz)
    rw [tailM, List.length_append, List.length_append, List.length_cons]
    simp only [List.length_cons, List.length_nil]
    omega
theorem rowM_len {row : List (List UInt8)} (h : ∀ y ∈ row, y.length ≤ 60) : (rowM row).length ≤ 63 * row.length := by
  rcases row with _ | ⟨x, r⟩
  · exact Nat.zero_le _
  · have h1 := h x List.mem_cons_self
    have h2 := tailM_len r fun z hz => h z (List.mem_cons_of_mem _ hz)
    rw [rowM, List.length_append, List.length_cons]
    omega
theorem rows_len (rem : List UInt8) : ∀ (rows : List (List (List UInt8))), (∀ row ∈ rows, row.length ≤ 7 ∧ ∀ y ∈ row, y.length ≤ 60) → (rows.flatMap fun row => rowM row ++ [32, 35] ++ rem ++ [10, 9, 10]).length ≤ rows.length * (446 + rem.length)
  | [], _ => Nat.zero_le _
  | row :: rows, h => by
    have ih := rows_len rem rows fun r hr => h r (List.mem_cons_of_mem _ hr)
    obtain ⟨h1, h2⟩ := h row List.mem_cons_self
    have h3 := rowM_len h2
    rw [List.flatMap_cons, List.length_append, List.length_cons, Nat.succ_mul]
    simp only [List.length_append, List.length_cons, List.length_nil]
    omega
theorem mb_len (rem : List UInt8) (c : UInt8) : 1 ≤ (mb rem c).length ∧ (mb rem c).length ≤ 5 + rem.length := by
  unfold mb
  repeat' split
  all_goals (simp only [List.length_append, List.length_cons, List.length_nil]; omega)
theorem flat_ge (rem : List UInt8) : ∀ s : List UInt8, s.length ≤ (s.flatMap (mb rem)).length
  | [] => Nat.zero_le _
  | c :: s => by
    have := flat_ge rem s
    have := (mb_len rem c).1
    rw [List.flatMap_cons, List.length_append, List.length_cons]
    omega
theorem rows_small {c : Cfg} (h : mayP c) : ∀ row ∈ rowsF c, row.length ≤ 7 ∧ ∀ y ∈ row, y.length ≤ 60 := by
  have hd : ∀ n : Int, (dgF n).length ≤ 60 := fun n => Nat.le_trans (digL_len 10 _) (by decide)
  have hk : ∀ k : Int, (kindW k).length ≤ 60 := fun k => Nat.le_trans (kindW_len k) (by decide)
  have ha : ∀ a : Adr, (textA a).length ≤ 60 := fun a => Nat.le_trans (textA_len a) (by decide)
  have hself : ∀ a : Adr, ∀ row ∈ selfR a, row.length ≤ 7 ∧ ∀ y ∈ row, y.length ≤ 60 := by
    intro a row hrow
    unfold selfR at hrow
    split at hrow
    · cases hrow
    · rw [List.mem_singleton] at hrow
      subst hrow
      refine ⟨by simp, fun y hy => ?_⟩
      simp only [List.mem_cons, List.not_mem_nil, or_false] at hy
      rcases hy with rfl | rfl
      · decide
      · exact ha a
  intro row hrow
  unfold rowsF headR at hrow
  simp only [List.mem_append] at hrow
  rcases hrow with ((((hrow | hrow) | hrow) | hrow) | hrow) | hrow
  · simp only [List.mem_cons, List.not_mem_nil, or_false] at hrow
    rcases hrow with rfl | rfl
    · refine ⟨by simp, fun y hy => ?_⟩
      simp only [List.mem_cons, List.not_mem_nil, or_false] at hy
      rcases hy with rfl | rfl
      · decide
      · exact hd _
    · refine ⟨by simp, fun y hy => ?_⟩
      simp only [List.mem_cons, List.not_mem_nil, or_false] at hy
      rcases hy with rfl | rfl
      · decide
      · exact hk _
  · exact hself _ row hrow
  · exact hself _ row hrow
  · obtain ⟨n, hn, rfl⟩ := List.mem_map.1 hrow
    obtain ⟨j, hj⟩ := List.mem_iff_getElem?.1 hn
    obtain ⟨n1, n2, n3, n4, n5, n6⟩ := node_facts h.tree hj
    refine ⟨?_, fun y hy => ?_⟩
    · unfold nodeR
      simp only [List.length_append, List.length_cons, List.length_nil]
      repeat' split
      all_goals simp
    · unfold nodeR at hy
      simp only [List.mem_append, List.mem_cons, List.not_mem_nil, or_false] at hy
      rcases hy with (((rfl | rfl) | hy) | hy) | hy
      · exact hk _
      · omega
      · split at hy
        · rename_i hk1
          obtain ⟨_, m, _, _, _, hm, he⟩ := n6 hk1
          rw [List.mem_singleton, he] at hy
          subst hy
          omega
        · cases hy
      · split at hy
        · rw [List.mem_singleton] at hy
          subst hy
          exact hd _
        · cases hy
      · split at hy
        · rw [List.mem_singleton] at hy
          subst hy
          exact ha _
        · cases hy
  · obtain ⟨v, hv, rfl⟩ := List.mem_map.1 hrow
    refine ⟨?_, fun y hy => ?_⟩
    · unfold vipR
      simp only [List.length_append, List.length_cons, List.length_nil]
      repeat' split
      all_goals simp
    · unfold vipR at hy
      simp only [List.mem_append, List.mem_cons, List.not_mem_nil, or_false] at hy
      rcases hy with ((rfl | rfl | rfl | rfl) | hy) | hy
      · decide
      · exact ha _
      · split <;> decide
      · exact hd _
      · split at hy
        · simp only [List.mem_cons, List.not_mem_nil, or_false] at hy
          rcases hy with rfl | rfl
          · decide
          · exact hd _
        · cases hy
      · split at hy
        · rw [List.mem_singleton] at hy
          subst hy
          decide
        · cases hy
  · obtain ⟨v, hv, rfl⟩ := List.mem_map.1 hrow
    refine ⟨by simp [viewR], fun y hy => ?_⟩
    unfold viewR at hy
    simp only [List.mem_cons, List.not_mem_nil, or_false] at hy
    rcases hy with rfl | rfl | rfl
    · decide
    · exact textP_len60 _ _
    · exact hd _
theorem more_len {c : Cfg} {M : Nat} (h : mayP c) (hg : c.good M) (hn : c.nodes.length ≤ 60) (hv : c.vips.length ≤ 20) (hw : c.views.length ≤ 20) {rem : List UInt8} (hr : rem.length ≤ 60) : (moreF rem (textR (rowsF c))).length ≤ 65536 ∧ (textR (rowsF c)).length ≤ 65536 := by
  have h1 := rows_len rem (rowsF c) (rows_small h)
  have h2 := mb_text rem (rowsF c) fun r hr => (rows_ok h hg r hr).2
  have h3 := flat_ge rem (textR (rowsF c))
  have hs : ∀ a : Adr, (selfR a).length ≤ 1 := by
    intro a
    unfold selfR
    split <;> simp
  have h4 : (rowsF c).length ≤ 104 := by
    have h1 := hs c.s0
    have h2 := hs c.s1
    unfold rowsF headR
    simp only [List.length_append, List.length_map, List.length_cons, List.length_nil]
    omega
  have h5 : (rowsF c).length * (446 + rem.length) ≤ 104 * 506 := Nat.mul_le_mul h4 (by omega)
  unfold moreF
  rw [List.length_cons]
  rw [h2] at h3 ⊢
  omega
theorem more_step {rem s : List UInt8} {i : Nat} {c : UInt8} (h : s[i]? = some c) : (10 :: (s.take (i + 1)).flatMap (mb rem)) = (10 :: (s.take i).flatMap (mb rem)) ++ mb rem c := by
  rw [List.take_add_one, h]
  simp [List.flatMap_append]
theorem take_flat_len (rem : List UInt8) (k : Nat) (hk : rem.length ≤ k) : ∀ s : List UInt8, (s.flatMap (mb rem)).length ≤ s.length * (5 + k)
  | [] => Nat.zero_le _
  | c :: s => by
    have := take_flat_len rem k hk s
    have := (mb_len rem c).2
    rw [List.flatMap_cons, List.length_append, List.length_cons, Nat.succ_mul]
    omega
end Conf18
end Go.Proofs.YtcpokkkdmenmgaaDoor
/- tree: a tree in memory: its nodes, and rows of places that lie apart. No condition. -/
namespace Go.Proofs.YtcpokkkdmenmgaaDoor
open Go.RowKit Go.ChangeShapes Go.WideShapes Go.ChangeAt Go.Deep
namespace Tree16
open Conf18 (Nd ndC lt_of_blk)
def intv (n : Int) : Value := .int .i64 n
/-- Rows of numbers that lie apart. -/
structure Rows (w : World) (base : Nat) (vs : List Value) (xs : List (List Int)) : Prop where
  len : vs.length = xs.length
  own : ∀ (i : Nat) (v : Value) (x : List Int), vs[i]? = some v → xs[i]? = some x → w.ownsRow base 3 1 v x.length (x.map intv)
  apart : ∀ (i j : Nat) (v u : Value) (g : Nat), vs[i]? = some v → vs[j]? = some u → v.ownBlock = some g → u.ownBlock = some g → i = j
section
variable {w w' : World} {base : Nat} {vs : List Value} {xs : List (List Int)}
theorem Rows.kept {row : Option Nat} (h : Rows w base vs xs) (hg : w.grownBy w' row) (hne : ∀ (i : Nat) (v : Value) (g : Nat), vs[i]? = some v → v.ownBlock = some g → row ≠ some g) : Rows w' base vs xs := by
  refine ⟨h.len, fun i v x h1 h2 => ?_, h.apart⟩
  refine World.ownsRow.kept (h.own i v x h1 h2) hg ?_
  rcases hb : v.ownBlock with _ | g
  · exact .inl rfl
  · exact .inr fun e => hne i v g h1 hb e.symm
theorem Rows.on (h : Rows w base vs xs) (hb : Below w.heap.size w w') : Rows w' base vs xs := ⟨h.len, fun i v x h1 h2 => row_on (h.own i v x h1 h2) hb, h.apart⟩
theorem Rows.lt (h : Rows w base vs xs) {i g : Nat} {v : Value} (h1 : vs[i]? = some v) (h2 : v.ownBlock = some g) : base ≤ g ∧ g < w.heap.size := by
  have hl := (List.getElem?_eq_some_iff.1 h1).1
  exact World.ownsRow.lt (h.own i v _ h1 (List.getElem?_eq_getElem (by rw [← h.len]; exact hl))) _ h2
/-- One of the rows grows. -/
theorem Rows.grow (h : Rows w base vs xs) {i : Nat} {v v' : Value} {x x' : List Int} (hv : vs[i]? = some v) (hx : xs[i]? = some x) (ho : w'.ownsRow base 3 1 v' x'.length (x'.map intv)) (hg : Grew w v w' v') : Rows w' base (vs.set i v') (xs.set i x') := by
  have hi := (List.getElem?_eq_some_iff.1 hv).1
  have hix := (List.getElem?_eq_some_iff.1 hx).1
  have hmv : ∀ (j g : Nat) (u : Value), j ≠ i → vs[j]? = some u → u.ownBlock = some g → v'.ownBlock ≠ some g := by
    intro j g u hj h1 h2 h3
    rcases hg.moved with h4 | ⟨k, h4, h5⟩
    · rw [h3] at h4
      exact hj (h.apart j i u v g h1 hv h2 h4.symm)
    · rw [h3] at h4
      have := (h.lt h1 h2).2
      have : g = k := by simpa using h4
      omega
  refine ⟨by rw [List.length_set, List.length_set, h.len], fun j u y h1 h2 => ?_, fun j k u u' g h1 h2 h3 h4 => ?_⟩
  · by_cases hj : j = i
    · subst hj
      rw [List.getElem?_set_self hi] at h1
      rw [List.getElem?_set_self hix] at h2
      cases h1; cases h2
      exact ho
    · rw [List.getElem?_set_ne (Ne.symm hj)] at h1 h2
      refine World.ownsRow.kept (h.own j u y h1 h2) hg.grown ?_
      rcases hb : u.ownBlock with _ | g
      · exact .inl rfl
      · exact .inr fun e => hj (h.apart j i u v g h1 hv hb e.symm)
  · by_cases hj : j = i
    · by_cases hk : k = i
      · omega
      · subst hj
        rw [List.getElem?_set_self hi] at h1
        rw [List.getElem?_set_ne (Ne.symm hk)] at h2
        cases h1
        exact absurd h3 (hmv k g u' hk h2 h4)
    · by_cases hk : k = i
      · subst hk
        rw [List.getElem?_set_self hi] at h2
        rw [List.getElem?_set_ne (Ne.symm hj)] at h1
        cases h2
        exact absurd h4 (hmv j g u hj h1 h3)
      · rw [List.getElem?_set_ne (Ne.symm hj)] at h1
        rw [List.getElem?_set_ne (Ne.symm hk)] at h2
        exact h.apart j k u u' g h1 h2 h3 h4
/-- One more row, without any. -/
theorem Rows.more (h : Rows w base vs xs) : Rows w base (vs ++ [.slice none 0 0]) (xs ++ [[]]) := by
  have hnil : ∀ (j g : Nat) (u : Value), vs.length ≤ j → (vs ++ [.slice none 0 0])[j]? = some u → u.ownBlock = some g → False := by
    intro j g u hj h1 h2
    rw [List.getElem?_append_right hj] at h1
    have hl := (List.getElem?_eq_some_iff.1 h1).1
    have : j - vs.length = 0 := by simpa using hl
    rw [this] at h1
    cases h1
    cases h2
  refine ⟨by simp [h.len], fun j u y h1 h2 => ?_, fun j k u u' g h1 h2 h3 h4 => ?_⟩
  · by_cases hj : j < vs.length
    · rw [List.getElem?_append_left hj] at h1
      rw [List.getElem?_append_left (by rw [← h.len]; exact hj)] at h2
      exact h.own j u y h1 h2
    · rw [List.getElem?_append_right (by omega)] at h1
      rw [List.getElem?_append_right (by rw [← h.len]; omega)] at h2
      have hl := (List.getElem?_eq_some_iff.1 h1).1
      have e : j - vs.length = 0 := by simpa using hl
      rw [e] at h1
      rw [← h.len, e] at h2
      cases h1; cases h2
      exact World.ownsRow_nil _ _ _ _
  · by_cases hj : j < vs.length
    · by_cases hk : k < vs.length
      · rw [List.getElem?_append_left hj] at h1
        rw [List.getElem?_append_left hk] at h2
        exact h.apart j k u u' g h1 h2 h3 h4
      · exact (hnil k g u' (by omega) h2 h4).elim
    · exact (hnil j g u (by omega) h1 h3).elim
end
/-- A tree in memory. -/
structure TreeC (w : World) (base x : Nat) (ns : List Nd) (nv kv tv hv : Value) (us : List Value) : Prop where
  blk : w.heap[x]? = some (.cells #[nv, kv, tv, hv] 111 (0, 0))
  hx : base ≤ x
  nodes : w.ownsRow base 72 7 nv ns.length (ns.map ndC).flatten
  kids : w.ownsRow base 109 1 kv ns.length us
  rows : Rows w base (tv :: hv :: us) (topF ns :: hostsF ns :: (List.range ns.length).map (kidsF ns))
  small : ns.length ≤ 1024 ∧ (∀ n ∈ ns, n.above < (ns.length : Int))
def TreeAt (w : World) (base x : Nat) (ns : List Nd) : Prop := ∃ nv kv tv hv us, TreeC w base x ns nv kv tv hv us
theorem TreeC.on {w w' : World} {base x : Nat} {ns : List Nd} {nv kv tv hv : Value} {us : List Value} (h : TreeC w base x ns nv kv tv hv us) (hb : Below w.heap.size w w') : TreeC w' base x ns nv kv tv hv us :=
  ⟨(hb.block x (lt_of_blk h.blk)).trans h.blk, h.hx, row_on h.nodes hb, row_on h.kids hb, h.rows.on hb, h.small⟩
end Tree16
end Go.Proofs.YtcpokkkdmenmgaaDoor
/- tree: a tree in memory, between the steps of put. No condition. -/
namespace Go.Proofs.YtcpokkkdmenmgaaDoor
open Go.RowKit Go.ChangeShapes Go.WideShapes Go.ChangeAt Go.Deep
namespace Tree16
open Conf18 (Nd ndC lt_of_blk row_set row_not_x)
theorem set_take {α : Type} (l : List α) (n i : Nat) (u : α) : (l.set i u).take n = (l.take n).set i u := by
  rw [List.take_set]
/-- A cell of a row of the call's own is told otherwise. -/
theorem row_upd {w : World} {base : Nat} {e : TypeId} {v : Value} {n : Nat} {xs : List Value} (h : w.ownsRow base e 1 v n xs) {i : Nat} (hi : i < n) (u : Value) :
    ∃ g cap cur, v = .slice (some ⟨g, 0, none⟩) n cap ∧ base ≤ g ∧ n ≤ cap ∧ cap ≤ maxLen ∧ w.heap[g]? = some (.cells cur e (0, 0)) ∧ i < cur.size ∧ (w.setCell ⟨g, i, none⟩ u).ownsRow base e 1 v n (xs.set i u) ∧ xs[i]? = cur[i]? := by
  obtain ⟨hl, ⟨-, h0⟩ | ⟨g, cap, cur, hv, hg, hh, h1, h2, h3, h4⟩⟩ := h
  · omega
  · refine ⟨g, cap, cur, hv, hg, h1, h2, hh, by omega, ⟨by rw [List.length_set]; exact hl, .inr ⟨g, cap, cur.setIfInBounds i u, hv, hg, blk_set hh i u, h1, h2, by rw [Array.size_setIfInBounds]; exact h3, ?_⟩⟩, ?_⟩
    · rw [Array.toList_setIfInBounds, set_take, h4]
    · rw [← h4, List.getElem?_take, if_pos (by omega), Array.getElem?_toList]
structure TreeM (w : World) (base x : Nat) (ns : List Nd) (nv kv tv hv : Value) (us : List Value) (xs : List (List Int)) : Prop where
  blk : w.heap[x]? = some (.cells #[nv, kv, tv, hv] 111 (0, 0))
  hx : base ≤ x
  nodes : w.ownsRow base 72 7 nv ns.length (ns.map ndC).flatten
  kids : w.ownsRow base 109 1 kv us.length us
  rows : Rows w base (tv :: hv :: us) xs
section
variable {w w' : World} {base x : Nat} {ns : List Nd} {nv kv tv hv nv' kv' tv' hv' : Value} {us : List Value} {xs : List (List Int)}
theorem TreeM.on (h : TreeM w base x ns nv kv tv hv us xs) (hb : Below w.heap.size w w') : TreeM w' base x ns nv kv tv hv us xs :=
  ⟨(hb.block x (lt_of_blk h.blk)).trans h.blk, h.hx, row_on h.nodes hb, row_on h.kids hb, h.rows.on hb⟩
theorem Rows.set_x {vs : List Value} (h : Rows w base vs xs) {cs : Array Value} {T : TypeId} (hx : w.heap[x]? = some (.cells cs T (0, 0))) (hT : T ≠ 3) (i : Nat) (u : Value) : Rows (w.setCell ⟨x, i, none⟩ u) base vs xs :=
  ⟨h.len, fun j v y h1 h2 => row_set (h.own j v y h1 h2) hx hT i u, h.apart⟩
theorem Rows.other {vs : List Value} (h : Rows w base vs xs) {v : Value} {e : TypeId} {size n : Nat} {ys : List Value} (ho : w.ownsRow base e size v n ys) (he : 3 ≠ e) (hg : w.grownBy w' v.ownBlock) : Rows w' base vs xs := by
  refine ⟨h.len, fun j u y h1 h2 => World.ownsRow.kept (h.own j u y h1 h2) hg (rows_apart (h.own j u y h1 h2) ho he), h.apart⟩
theorem blk_kept {v : Value} {e : TypeId} {size n : Nat} {ys : List Value} {cs : Array Value} {T : TypeId} (hx : w.heap[x]? = some (.cells cs T (0, 0))) (ho : w.ownsRow base e size v n ys) (he : T ≠ e) (hg : w.grownBy w' v.ownBlock) : w'.heap[x]? = some (.cells cs T (0, 0)) := by
  refine (hg.block x (lt_of_blk hx) ?_).trans hx
  rcases row_not_x ho hx he with h3 | h3
  · rw [h3]; intro e; cases e
  · intro e; exact h3 e.symm
theorem TreeM.pushN {n : Nd} (h : TreeM w base x ns nv kv tv hv us xs) (h1 : w'.ownsRow base 72 7 nv' (ns.length + 1) ((ns.map ndC).flatten ++ ndC n)) (h2 : Grew w nv w' nv') :
    w'.heap[x]? = some (.cells #[nv, kv, tv, hv] 111 (0, 0)) ∧ TreeM (w'.setCell ⟨x, 0, none⟩ nv') base x (ns ++ [n]) nv' kv tv hv us xs := by
  have hb := blk_kept h.blk h.nodes (by decide) h2.grown
  have k1 := World.ownsRow.kept h.kids h2.grown (rows_apart h.kids h.nodes (by decide))
  have k2 := h.rows.other h.nodes (by decide) h2.grown
  refine ⟨hb, blk_set hb 0 nv', h.hx, ?_, row_set k1 hb (by decide) 0 nv', k2.set_x hb (by decide) 0 nv'⟩
  have h3 := row_set h1 hb (by decide) 0 nv'
  simpa [List.length_append] using h3
theorem TreeM.pushK (h : TreeM w base x ns nv kv tv hv us xs) (h1 : w'.ownsRow base 109 1 kv' (us.length + 1) (us ++ [.slice none 0 0])) (h2 : Grew w kv w' kv') :
    w'.heap[x]? = some (.cells #[nv, kv, tv, hv] 111 (0, 0)) ∧ TreeM (w'.setCell ⟨x, 1, none⟩ kv') base x ns nv kv' tv hv (us ++ [.slice none 0 0]) (xs ++ [[]]) := by
  have hb := blk_kept h.blk h.kids (by decide) h2.grown
  have k1 := World.ownsRow.kept h.nodes h2.grown (rows_apart h.nodes h.kids (by decide))
  have k2 := (h.rows.other h.kids (by decide) h2.grown).more
  refine ⟨hb, blk_set hb 1 kv', h.hx, row_set k1 hb (by decide) 1 kv', ?_, k2.set_x hb (by decide) 1 kv'⟩
  have h3 := row_set h1 hb (by decide) 1 kv'
  simpa [List.length_append] using h3
theorem TreeM.growT {y : List Int} {m : Int} (h : TreeM w base x ns nv kv tv hv us (y :: xs)) (h1 : w'.ownsRow base 3 1 tv' (y.length + 1) (y.map intv ++ [intv m])) (h2 : Grew w tv w' tv') :
    w'.heap[x]? = some (.cells #[nv, kv, tv, hv] 111 (0, 0)) ∧ TreeM (w'.setCell ⟨x, 2, none⟩ tv') base x ns nv kv tv' hv us ((y ++ [m]) :: xs) := by
  have ho := h.rows.own 0 tv y rfl rfl
  have hb := blk_kept h.blk ho (by decide) h2.grown
  have k1 := World.ownsRow.kept h.nodes h2.grown (rows_apart h.nodes ho (by decide))
  have k2 := World.ownsRow.kept h.kids h2.grown (rows_apart h.kids ho (by decide))
  have k3 := h.rows.grow (i := 0) (x' := y ++ [m]) rfl rfl (by rw [List.length_append, List.length_singleton, List.map_append]; exact h1) h2
  exact ⟨hb, blk_set hb 2 tv', h.hx, row_set k1 hb (by decide) 2 tv', row_set k2 hb (by decide) 2 tv', Rows.set_x k3 hb (by decide) 2 tv'⟩
theorem TreeM.growH {z y : List Int} {m : Int} (h : TreeM w base x ns nv kv tv hv us (z :: y :: xs)) (h1 : w'.ownsRow base 3 1 hv' (y.length + 1) (y.map intv ++ [intv m])) (h2 : Grew w hv w' hv') :
    w'.heap[x]? = some (.cells #[nv, kv, tv, hv] 111 (0, 0)) ∧ TreeM (w'.setCell ⟨x, 3, none⟩ hv') base x ns nv kv tv hv' us (z :: (y ++ [m]) :: xs) := by
  have ho := h.rows.own 1 hv y rfl rfl
  have hb := blk_kept h.blk ho (by decide) h2.grown
  have k1 := World.ownsRow.kept h.nodes h2.grown (rows_apart h.nodes ho (by decide))
  have k2 := World.ownsRow.kept h.kids h2.grown (rows_apart h.kids ho (by decide))
  have k3 := h.rows.grow (i := 1) (x' := y ++ [m]) rfl rfl (by rw [List.length_append, List.length_singleton, List.map_append]; exact h1) h2
  exact ⟨hb, blk_set hb 3 hv', h.hx, row_set k1 hb (by decide) 3 hv', row_set k2 hb (by decide) 3 hv', Rows.set_x k3 hb (by decide) 3 hv'⟩
/-- The row of the nodes below one grows. -/
theorem TreeM.growK {y : List Int} {m : Int} {a : Nat} {v v' : Value} (h : TreeM w base x ns nv kv tv hv us xs) (hv1 : us[a]? = some v) (hx1 : xs[a + 2]? = some y) (h1 : w'.ownsRow base 3 1 v' (y.length + 1) (y.map intv ++ [intv m])) (h2 : Grew w v w' v') :
    ∃ g cap cur, kv = .slice (some ⟨g, 0, none⟩) us.length cap ∧ base ≤ g ∧ w'.heap[g]? = some (.cells cur 109 (0, 0)) ∧ cur[a]? = some v ∧ TreeM (w'.setCell ⟨g, a, none⟩ v') base x ns nv kv tv hv (us.set a v') (xs.set (a + 2) (y ++ [m])) := by
  have ho := h.rows.own (a + 2) v y hv1 hx1
  have hb := blk_kept h.blk ho (by decide) h2.grown
  have k1 := World.ownsRow.kept h.nodes h2.grown (rows_apart h.nodes ho (by decide))
  have k2 := World.ownsRow.kept h.kids h2.grown (rows_apart h.kids ho (by decide))
  have k3 := h.rows.grow (i := a + 2) (x' := y ++ [m]) hv1 hx1 (by rw [List.length_append, List.length_singleton, List.map_append]; exact h1) h2
  have ha := (List.getElem?_eq_some_iff.1 hv1).1
  obtain ⟨g, cap, cur, e1, e2, -, -, e3, e4, e5, e6⟩ := row_upd k2 ha v'
  refine ⟨g, cap, cur, e1, e2, e3, by rw [← e6]; exact hv1, ?_⟩
  have hxg : x ≠ g := by
    rintro rfl
    rw [hb] at e3
    simp at e3
  refine ⟨?_, h.hx, row_set k1 e3 (by decide) a v', by rw [List.length_set]; exact e5, ?_⟩
  · obtain ⟨w2, g1, g2, g3⟩ := store_cell e3 a v'
    rw [g1]
    exact grown_other g3 (lt_of_blk hb) hxg hb
  · exact Rows.set_x k3 e3 (by decide) a v'
end
end Tree16
end Go.Proofs.YtcpokkkdmenmgaaDoor
/- tree: right: why a node may not be, that stands behind others. Condition: fewer than 2^40 nodes, names of at most 2^40 bytes. -/
namespace Go.Proofs.YtcpokkkdmenmgaaDoor
open Go.RowKit Go.ChangeShapes Go.WideShapes Go.ChangeAt Go.Deep
namespace Tree16
open Conf18 (Nd zA ndC nd_one eqw)
open Addr05 (Adr wpl_eqA wpl_neA arrA adr_ext)
def ndA (n : Nd) : Array Value := #[.string (str n.name), .int .i64 n.kind, .int .i64 n.above, .int .i64 n.weight, .bool n.a.v6, .int .u64 (n.a.hi : Int), .int .u64 (n.a.lo : Int)]
theorem rightA_is (a : Adr) : Addr05.rightB a.v6 a.hi a.lo = rightA a := by
  unfold rightA
  apply Bool.eq_iff_iff.2
  rw [decide_eq_true_iff]
  exact Addr05.rightB_iff a
/-- The tests, one by one, as the code makes them. -/
def tB2 (wt kd : Int) : Bool := decide (wt < 0) || decide (65535 < wt) || ((kd == 1) && (wt != 0))
def tB3 (kd ab : Int) (k : Nat) : Bool := ((kd == 1) && (ab != -1)) || (decide (1 < kd) && (decide (ab < 0) || decide ((k : Int) ≤ ab)))
theorem rightF_tests (n : Nd) (l : List Nd) : rightF n l = if (!nameF n.name || decide (n.kind < 1) || decide (4 < n.kind)) = true then 1 else if tB2 n.weight n.kind = true then 17 else if tB3 n.kind n.above l.length = true then 16
    else if (decide (1 < n.kind) && ((l.getD n.above.toNat n).kind != n.kind - 1)) = true then 16 else if (!rightA n.a || ((n.kind != 4) && !decide (n.a = zA))) = true then 18 else if (l.any (clash n)) = true then 8 else 0 := by
  unfold rightF tB2 tB3
  have h1 : (nameF n.name = false ∨ n.kind < 1 ∨ 4 < n.kind) ↔ (!nameF n.name || decide (n.kind < 1) || decide (4 < n.kind)) = true := by
    simp [or_assoc]
  have h2 : (n.weight < 0 ∨ 65535 < n.weight ∨ (n.kind = 1 ∧ n.weight ≠ 0)) ↔ (decide (n.weight < 0) || decide (65535 < n.weight) || ((n.kind == 1) && (n.weight != 0))) = true := by
    simp [or_assoc]
  have h3 : ((n.kind = 1 ∧ n.above ≠ -1) ∨ (1 < n.kind ∧ (n.above < 0 ∨ (l.length : Int) ≤ n.above))) ↔ (((n.kind == 1) && (n.above != -1)) || (decide (1 < n.kind) && (decide (n.above < 0) || decide ((l.length : Int) ≤ n.above)))) = true := by
    simp
  have h4 : (1 < n.kind ∧ (l.getD n.above.toNat n).kind ≠ n.kind - 1) ↔ (decide (1 < n.kind) && ((l.getD n.above.toNat n).kind != n.kind - 1)) = true := by
    simp
  have h5 : (rightA n.a = false ∨ (n.kind ≠ 4 ∧ n.a ≠ zA)) ↔ (!rightA n.a || ((n.kind != 4) && !decide (n.a = zA))) = true := by
    simp
  simp only [h1, h2, h3, h4, h5]
set_option maxRecDepth 20000 in
set_option maxHeartbeats 16000000 in
theorem right_any (n : Nd) (l : List Nd) (k cap : Nat) (A : Option Addr) (w : World) (hl : IsT ndC 7 w w.heap.size A k l) (hk : k ≤ 1099511627776) (hn : n.name.length ≤ 9223372036854775807) :
    Calls Tryd.prog 45 #[.agg (ndA n), .slice A k cap] w fun e w' => e = .returned (.int .i64 (rightF n l : Int)) ∧ Below w.heap.size w w' := by
  obtain ⟨r, hr⟩ : ∃ r, rightF n l = r := ⟨_, rfl⟩
  rw [hr]
  rw [rightF_tests] at hr
  obtain ⟨nm, kd, ab, wt, ⟨v6, hi, lo⟩⟩ := n
  unfold ndA
  dsimp only at hn hr ⊢
  have hlen := hl.1
  rw [hlen] at hr
  obtain ⟨z, hz⟩ : ∃ z, w.heap.size = z := ⟨_, rfl⟩
  obtain ⟨w1, hw1⟩ : ∃ w1, w.alloc (.cells #[.string (str nm), .int .i64 kd, .int .i64 ab, .int .i64 wt, .bool v6, .int .u64 (hi : Int), .int .u64 (lo : Int)] 72) = w1 := ⟨_, rfl⟩
  have hB : Below w.heap.size w w1 := hw1 ▸ (Below.refl _ _).alloc (Nat.le_refl _) _
  have hg1 : w1.heap[w.heap.size]? = some (.cells #[.string (str nm), .int .i64 kd, .int .i64 ab, .int .i64 wt, .bool v6, .int .u64 (hi : Int), .int .u64 (lo : Int)] 72 (0, 0)) := hw1 ▸ blk_new _ _ _
  have hl1 := hl.below hB
  rw [hz] at hg1 hl1 hB
  have hz1 : z < w1.heap.size := Conf18.lt_of_blk hg1
  have hrA : ∀ w, Calls Tryd.prog 28 #[.agg #[.bool v6, .int .u64 (hi : Int), .int .u64 (lo : Int)]] w fun e w' => e = .returned (.bool (rightA ⟨v6, hi, lo⟩)) ∧ Below w.heap.size w w' := fun w => by
    have h := Addr05.Right_any v6 hi lo w
    rw [rightA_is ⟨v6, hi, lo⟩] at h
    exact h
  have q := name_any nm hn w1
  obtain ⟨NB, hNB⟩ : ∃ B, nameF nm = B := ⟨_, rfl⟩
  rw [hNB] at hr q
  have hgc := blk_cell hg1
  obtain ⟨bk1, hbk1⟩ : ∃ b, decide (kd < 1) = b := ⟨_, rfl⟩
  obtain ⟨bk4, hbk4⟩ : ∃ b, decide (4 < kd) = b := ⟨_, rfl⟩
  replace hB := hide hB
  replace hg1 := hide hg1
  replace hl1 := hide hl1
  replace hr := hide hr
  replace q := hide q
  replace hNB := hide hNB
  replace hrA := hide hrA
  clear hl
  go_enter Tryd.func45, Tryd.ntmps45
  go_upto_region 1 with fail
  clear hw1
  obtain ⟨B1, hB1⟩ : ∃ b, (!NB || bk1 || bk4) = b := ⟨_, rfl⟩
  go_cut [7] (fun bv wx => bv = .bool B1 ∧ w1 = wx)
  case first =>
    clear hr hrA hlen hk
    go_wp2_with fail
    refine (q.out).mono ?_
    rintro e w1 ⟨rfl, rfl⟩
    cases NB
    · obtain rfl : true = B1 := hB1
      go_wp2_with fail
      go_meet
      exact ⟨rfl, rfl⟩
    · cases bk1
      · obtain rfl : bk4 = B1 := hB1
        go_wp2_with fail
        go_meet
        exact ⟨rfl, rfl⟩
      · obtain rfl : true = B1 := by rw [← hB1]; rfl
        go_wp2_with fail
        go_meet
        exact ⟨rfl, rfl⟩
  case rest =>
  obtain ⟨rfl, rfl⟩ := hcut
  have hr1 := hr.out
  rw [hbk1, hbk4, hB1] at hr1
  have hk14 : B1 = false → 1 ≤ kd ∧ kd ≤ 4 := fun h => by
    rw [h] at hB1
    simp at hB1
    have h1 := of_decide_eq_false (hbk1.trans hB1.1.2)
    have h2 := of_decide_eq_false (hbk4.trans hB1.2)
    exact ⟨by omega, by omega⟩
  clear hr q hNB hB1
  cases B1
  case true =>
    obtain rfl : 1 = r := by rw [← hr1]; rfl
    go_wp2_with fail
    go_ret
    exact ⟨rfl, hB.out⟩
  case false =>
  clear hbk1 hbk4
  have hwk : IntKind.i64.wrap (kd - 1) = kd - 1 := by
    have := hk14 rfl
    exact wraps62 _ (by omega) (by omega)
  replace hwk := hide hwk
  clear hk14
  obtain ⟨bw0, hbw0⟩ : ∃ b, decide (wt < 0) = b := ⟨_, rfl⟩
  obtain ⟨bw6, hbw6⟩ : ∃ b, decide (65535 < wt) = b := ⟨_, rfl⟩
  obtain ⟨ek1, hek1⟩ : ∃ b, (kd == 1) = b := ⟨_, rfl⟩
  obtain ⟨ew0, hew0⟩ : ∃ b, (wt != 0) = b := ⟨_, rfl⟩
  obtain ⟨B2, hB2⟩ : ∃ b, tB2 wt kd = b := ⟨_, rfl⟩
  have hB2' : (bw0 || bw6 || (ek1 && ew0)) = B2 := by rw [← hbw0, ← hbw6, ← hek1, ← hew0]; exact hB2
  replace hr1 := hide hr1
  replace hB2 := hide hB2
  go_upto_region 3 with fail
  go_cut [22] (fun bv wx => bv = .bool B2 ∧ w1 = wx)
  case first =>
    clear hr1 hrA hlen hk
    cases bw0
    · cases bw6
      · cases ek1
        · obtain rfl : false = B2 := hB2'
          go_wp2_with fail
          go_meet
          exact ⟨rfl, rfl⟩
        · obtain rfl : ew0 = B2 := hB2'
          go_wp2_with fail
          go_meet
          exact ⟨rfl, rfl⟩
      · obtain rfl : true = B2 := by rw [← hB2']; rfl
        cases ek1 <;> cases ew0 <;> (go_wp2_with fail; go_meet; exact ⟨rfl, rfl⟩)
    · obtain rfl : true = B2 := by rw [← hB2']; rfl
      cases bw6 <;> cases ek1 <;> cases ew0 <;> (go_wp2_with fail; go_meet; exact ⟨rfl, rfl⟩)
  case rest =>
  obtain ⟨rfl, rfl⟩ := hcut
  have hr2 := hr1.out
  rw [if_neg (by decide), hB2.out] at hr2
  clear hr1 hB2 hB2' hbw0 hbw6 hew0
  cases B2
  case true =>
    obtain rfl : 17 = r := by rw [← hr2]; rfl
    go_wp2_with fail
    go_ret
    exact ⟨rfl, hB.out⟩
  case false =>
  obtain ⟨ea1, hea1⟩ : ∃ b, (ab != -1) = b := ⟨_, rfl⟩
  obtain ⟨bk5, hbk5⟩ : ∃ b, decide (1 < kd) = b := ⟨_, rfl⟩
  obtain ⟨ba0, hba0⟩ : ∃ b, decide (ab < 0) = b := ⟨_, rfl⟩
  obtain ⟨bak, hbak⟩ : ∃ b, decide ((k : Int) ≤ ab) = b := ⟨_, rfl⟩
  obtain ⟨B3, hB3⟩ : ∃ b, tB3 kd ab k = b := ⟨_, rfl⟩
  obtain ⟨B3a, hB3a⟩ : ∃ b, (ek1 && ea1) = b := ⟨_, rfl⟩
  have hB3' : (B3a || (bk5 && (ba0 || bak))) = B3 := by rw [← hB3a, ← hek1, ← hea1, ← hbk5, ← hba0, ← hbak]; exact hB3
  replace hr2 := hide hr2
  replace hB3 := hide hB3
  go_upto_region 5 with fail
  go_cut [41] (fun bv wx => bv = .bool B3a ∧ w1 = wx)
  case first =>
    clear hr2 hrA hlen hk hB3' hB3
    cases ek1
    · obtain rfl : false = B3a := hB3a
      go_wp2_with fail
      go_meet
      exact ⟨rfl, rfl⟩
    · obtain rfl : ea1 = B3a := hB3a
      go_wp2_with fail
      go_meet
      exact ⟨rfl, rfl⟩
  case rest =>
  obtain ⟨rfl, rfl⟩ := hcut
  go_upto_if 41 with fail
  go_cut [41] (fun bv wx => bv = .bool B3 ∧ w1 = wx)
  case first =>
    clear hr2 hrA hlen hk hB3 hB3a hek1 hea1
    cases B3a
    · cases bk5
      · obtain rfl : false = B3 := hB3'
        go_wp2_with fail
        go_meet
        exact ⟨rfl, rfl⟩
      · cases ba0
        · obtain rfl : bak = B3 := hB3'
          go_wp2_with fail
          go_meet
          exact ⟨rfl, rfl⟩
        · obtain rfl : true = B3 := by rw [← hB3']; rfl
          go_wp2_with fail
          go_meet
          exact ⟨rfl, rfl⟩
    · obtain rfl : true = B3 := by rw [← hB3']; rfl
      go_wp2_with fail
      go_meet
      exact ⟨rfl, rfl⟩
  case rest =>
  obtain ⟨rfl, rfl⟩ := hcut
  have hr3 := hr2.out
  rw [hB3.out] at hr3
  clear hr2 hB3 hB3a hek1 hea1
  cases B3
  case true =>
    obtain rfl : 16 = r := by rw [← hr3]; rfl
    go_wp2_with fail
    go_ret
    exact ⟨rfl, hB.out⟩
  case false =>
  obtain ⟨B4, hB4⟩ : ∃ b, (decide (1 < kd) && ((l.getD ab.toNat ⟨nm, kd, ab, wt, ⟨v6, hi, lo⟩⟩).kind != kd - 1)) = b := ⟨_, rfl⟩
  rw [if_neg (by decide), hB4] at hr3
  rw [hbk5] at hB4
  have hz1' := hz1
  replace hr3 := hide hr3
  go_upto_region 8 with fail
  go_cut [65] from 66 to 80 (fun bv wx => bv = .bool B4 ∧ Below w1.heap.size w1 wx)
  case first =>
    have la := fun l : Later w1 => blk_cell (blk_below l.hb hz1 hg1.out)
    cases bk5
    · obtain rfl : false = B4 := hB4
      clear hr3 hrA hlen hk hB3'
      refine wp_region_L (by as_aux_lemma => kernel_rfl) ?_
      refine wpE_seg 0 16 (fuel := 0) (by as_aux_lemma => kernel_rfl) (fun d _ _ _ _ h => by cases d <;> exact h) (by as_aux_lemma => kernel_rfl) (by as_aux_lemma => kernel_rfl) ?_
      simp only [List.drop_zero, List.take_succ_cons, List.take_zero]
      iterate 3 (refine wpQE_step (fun K hK => ?_); go_simp; refine hK _ ?_; clear hK K)
      refine wpQE_val_skip (.bool false) 10 rfl (fun l => rfl) (by as_aux_lemma => kernel_rfl) ?_
      dsimp only [putU, List.take_succ_cons, List.take_zero, List.drop_succ_cons, List.drop_zero, Act.put]
      iterate 2 (refine wpQE_step (fun K hK => ?_); go_simp; refine hK _ ?_; clear hK K)
      refine wpQE_nil ?_
      refine wpE_done (by as_aux_lemma => kernel_rfl) (fun w3 hb3 => ?_) 0
      clear la
      go_wp2_with fail
      go_meet
      exact ⟨rfl, hb3⟩
    · have ha0 : 0 ≤ ab := by
        cases ba0
        · have := of_decide_eq_false hba0; omega
        · exfalso; cases B3a <;> simp at hB3'
      have hak : ab < (k : Int) := by
        cases bak
        · have := of_decide_eq_false hbak; omega
        · exfalso; cases B3a <;> cases ba0 <;> simp at hB3'
      obtain ⟨u, rfl⟩ : ∃ u : Nat, ab = (u : Int) := ⟨ab.toNat, by omega⟩
      obtain ⟨b, off, m, rfl, hbk, hmi, hcell⟩ := IsT.at (f := ndC) (size := 7) (fun _ => rfl) (by decide) hl1.out (i := u) (by omega)
      have kc : w1.cell? ⟨b, off + u * 7 + 1, none⟩ = some (.int .i64 m.kind) := hcell 1 _ rfl
      have lk := fun l : Later w1 => (l.hb.cell (p := ⟨b, off + u * 7 + 1, none⟩) (by dsimp only; omega)).trans kc
      rw [show (l.getD (u : Int).toNat ⟨nm, kd, (u : Int), wt, ⟨v6, hi, lo⟩⟩) = m by rw [Int.toNat_natCast, List.getD_eq_getElem?_getD, hmi]; rfl] at hB4
      have wk : IntKind.i64.wrap (kd - 1) = kd - 1 := hwk.out
      obtain ⟨em, hem⟩ : ∃ b, (m.kind != kd - 1) = b := ⟨_, rfl⟩
      rw [hem] at hB4
      obtain rfl : em = B4 := hB4
      clear hcell hr3 hrA hlen hk hB3' hba0 hbak kc
      refine wp_region_L (by as_aux_lemma => kernel_rfl) ?_
      refine wpE_seg 0 16 (fuel := 0) (by as_aux_lemma => kernel_rfl) (fun d _ _ _ _ h => by cases d <;> exact h) (by as_aux_lemma => kernel_rfl) (by as_aux_lemma => kernel_rfl) ?_
      simp only [List.drop_zero, List.take_succ_cons, List.take_zero]
      iterate 16 (refine wpQE_step (fun K hK => ?_); go_simp; refine hK _ ?_; clear hK K)
      refine wpQE_nil ?_
      refine wpE_done (by as_aux_lemma => kernel_rfl) (fun w3 hb3 => ?_) 0
      clear la lk
      go_wp2_with fail
      go_meet
      exact ⟨rfl, hb3⟩
  case rest =>
  obtain ⟨rfl, hb3⟩ := hcut
  have hg3 := blk_below hb3 hz1 hg1.out
  have hl3 := hl1.out.below (hb3.mono (by omega))
  have hB3w := hB.out.trans (hb3.mono (by omega))
  have hz3 : z < wc.heap.size := Conf18.lt_of_blk hg3
  have hgc3 := blk_cell hg3
  clear hb3 hgc hg1 hl1 hB hB3' hba0 hbak hbk5 hB4
  replace hg3 := hide hg3
  replace hl3 := hide hl3
  replace hB3w := hide hB3w
  cases B4
  case true =>
    obtain rfl : 16 = r := by rw [← hr3.out]; rfl
    go_wp2_with fail
    go_ret
    exact ⟨rfl, hB3w.out⟩
  case false =>
  have hr4 := hr3.out
  rw [if_neg (by decide)] at hr4
  clear hr3
  obtain ⟨ez, hez⟩ : ∃ b, decide ((⟨v6, hi, lo⟩ : Adr) = zA) = b := ⟨_, rfl⟩
  obtain ⟨ek4, hek4⟩ : ∃ b, (kd != 4) = b := ⟨_, rfl⟩
  obtain ⟨RB, hRB⟩ : ∃ B, rightA ⟨v6, hi, lo⟩ = B := ⟨_, rfl⟩
  have qA := hrA.out wc
  rw [hRB] at hr4 qA
  rw [hez, hek4] at hr4
  obtain ⟨B5, hB5⟩ : ∃ b, (!RB || (ek4 && !ez)) = b := ⟨_, rfl⟩
  rw [hB5] at hr4
  clear hrA hRB
  replace qA := hide qA
  replace hr4 := hide hr4
  go_upto_region 10 with fail
  go_cut [81] from 82 to 96 (fun bv wx => bv = .bool B5 ∧ Below wc.heap.size wc wx)
  case first =>
    clear hr4 hlen hk
    go_wp2_with fail
    refine (qA.out).mono ?_
    rintro e w4 ⟨rfl, hb4⟩
    have hgc4 := blk_cell (blk_below hb4 hz3 hg3.out)
    clear hgc3 qA
    replace hb4 := hide hb4
    cases RB
    · obtain rfl : true = B5 := hB5
      go_wp2_with fail
      go_meet
      exact ⟨rfl, hb4.out⟩
    · cases ek4
      · obtain rfl : false = B5 := hB5
        go_wp2_with fail
        go_meet
        exact ⟨rfl, hb4.out⟩
      · cases ez
        · obtain rfl : true = B5 := hB5
          have hz0 := of_decide_eq_false hez
          clear hez
          cases v6
          · by_cases hh : hi = 0
            · subst hh
              have hl0 : ¬ (lo : Int) = 0 := fun h => hz0 (by rw [show lo = 0 by omega])
              clear hz0
              go_wp2_with fail
              go_meet
              exact ⟨rfl, hb4.out⟩
            · have hh0 : ¬ (hi : Int) = 0 := by omega
              clear hz0
              go_wp2_with fail
              go_meet
              exact ⟨rfl, hb4.out⟩
          · clear hz0
            go_wp2_with fail
            go_meet
            exact ⟨rfl, hb4.out⟩
        · obtain rfl : false = B5 := hB5
          have hz0 := of_decide_eq_true hez
          obtain ⟨rfl, rfl, rfl⟩ : v6 = false ∧ hi = 0 ∧ lo = 0 := by cases hz0; exact ⟨rfl, rfl, rfl⟩
          clear hez hz0
          go_wp2_with fail
          go_meet
          exact ⟨rfl, hb4.out⟩
  case rest =>
  obtain ⟨rfl, hb4⟩ := hcut
  have hr5 := hr4.out
  have hg4 := blk_below hb4 hz3 hg3.out
  have hl4 := hl3.out.below (hb4.mono (by omega))
  have hB4w := hB3w.out.trans (hb4.mono (by have := hB3w.out.size; omega))
  have hz4 : z < wc.heap.size := Conf18.lt_of_blk hg4
  clear hr4 hB5 hez hek4 hgc3 qA hb4 hg3 hl3 hB3w
  cases B5
  case true =>
    obtain rfl : 18 = r := by rw [← hr5]; rfl
    replace hB4w := hide hB4w
    go_wp2_with fail
    go_ret
    exact ⟨rfl, hB4w.out⟩
  case false =>
  simp only [Bool.false_eq_true, ↓reduceIte] at hr5
  have hrY : ∀ (j : Nat) (x : Nd), l[j]? = some x → clash ⟨nm, kd, ab, wt, ⟨v6, hi, lo⟩⟩ x = true → r = 8 := by
    intro j x hj hc
    rw [← hr5, if_pos (List.any_eq_true.2 ⟨x, List.mem_of_getElem? hj, hc⟩)]
  have hrN : (∀ (j : Nat) (x : Nd), l[j]? = some x → clash ⟨nm, kd, ab, wt, ⟨v6, hi, lo⟩⟩ x = false) → r = 0 := by
    intro h
    rw [← hr5, if_neg]
    intro h2
    obtain ⟨x, hx, hc⟩ := List.any_eq_true.1 h2
    obtain ⟨j, hj⟩ := List.mem_iff_getElem?.1 hx
    rw [h j x hj] at hc
    cases hc
  clear hr5
  obtain ⟨w5, hw5⟩ : ∃ w5, wc = w5 := ⟨_, rfl⟩
  rw [hw5] at hg4 hl4 hB4w hz4 ⊢
  clear hw5
  replace hg4 := hide hg4
  replace hl4 := hide hl4
  replace hB4w := hide hB4w
  replace hrY := hide hrY
  replace hrN := hide hrN
  go_wp2_with fail
  go_loopw [4, 6, 99] (fun _ _ iv wr => ∃ i : Nat, i ≤ k ∧ iv = .int .i64 (i : Int) ∧ (∀ (j : Nat) (x : Nd), j < i → l[j]? = some x → clash ⟨nm, kd, ab, wt, ⟨v6, hi, lo⟩⟩ x = false) ∧ Below w5.heap.size w5 wr) (fun _ _ iv _ => k - (intOf iv).toNat)
  case atStart => exact ⟨0, by omega, rfl, fun j x hj => by omega, Below.refl _ _⟩
  case round =>
    obtain ⟨i, hi', rfl, hno, hbr⟩ := hrel
    have hzr := hbr.size
    by_cases hin : i < k
    · have hlt : (i : Int) < (k : Int) := by omega
      obtain ⟨b, off, x, rfl, hbk, hni, hcell⟩ := IsT.at (f := ndC) (size := 7) (fun _ => rfl) (by decide) (hl4.out.below (hbr.mono (by omega))) hin
      have hrX := hrY.out i x hni
      have hno2 : clash ⟨nm, kd, ab, wt, ⟨v6, hi, lo⟩⟩ x = false → ∀ (j : Nat) (y : Nd), j < i + 1 → l[j]? = some y → clash ⟨nm, kd, ab, wt, ⟨v6, hi, lo⟩⟩ y = false := by
        intro hc j y hj hd
        by_cases hji : j = i
        · subst hji
          obtain rfl := Option.some.inj (hni.symm.trans hd)
          exact hc
        · exact hno j y (by omega) hd
      clear hno hni
      obtain ⟨xn, xk, xab, xw, ⟨xv, xh, xl⟩⟩ := x
      have y0 : wr.cell? ⟨b, off + i * 7, none⟩ = some (.string (str xn)) := hcell 0 _ rfl
      have y1 : wr.cell? ⟨b, off + i * 7 + 1, none⟩ = some (.int .i64 xk) := hcell 1 _ rfl
      have y2 : wr.cell? ⟨b, off + i * 7 + 2, none⟩ = some (.int .i64 xab) := hcell 2 _ rfl
      have y3 : wr.cell? ⟨b, off + i * 7 + 3, none⟩ = some (.int .i64 xw) := hcell 3 _ rfl
      have y4 : wr.cell? ⟨b, off + i * 7 + 4, none⟩ = some (.bool xv) := hcell 4 _ rfl
      have y5 : wr.cell? ⟨b, off + i * 7 + 5, none⟩ = some (.int .u64 (xh : Int)) := hcell 5 _ rfl
      have y6 : wr.cell? ⟨b, off + i * 7 + 6, none⟩ = some (.int .u64 (xl : Int)) := hcell 6 _ rfl
      clear hcell
      have te : ((str xn).toList == (str nm).toList) = decide (xn = nm) := by
        rw [show (str nm).toList = nm by simp [str, ByteArray.toList_eq]]
        exact eqw xn nm
      have wi1 : IntKind.i64.wrap ((i : Int) + 1) = ((i + 1 : Nat) : Int) := by rw [wraps62 _ (by omega) (by omega)]; omega
      replace hbr := hide hbr
      replace hrX := hide hrX
      replace hno2 := hide hno2
      go_upto_region 14 with fail
      apply wp_region_lit
      iterate 2 (refine wpList_plain rfl fun K hK => ?_; go_simp; refine hK _ _ ?_; clear hK K)
      refine wpl_new rfl rfl 72 _ (Conf18.alloc_nd _ rfl) 6 rfl (.tmp 102) rfl _ (fun _ => rfl) (fun _ => rfl) rfl (by kernel_rfl) (nd_one (str xn) xk xab xw xv (xh : Int) (xl : Int)) ?_
      intro w6 hg6 hb6 hz6
      refine wpList_nil ?_
      go_simp
      have hgx := blk_cell hg6
      have hgz := blk_cell (blk_below hb6 (by omega) (blk_below hbr.out (by omega) hg4.out))
      have hb6' := hbr.out.trans (hb6.mono (by omega))
      have hbW := hB4w.out.trans (hb6'.mono (by have := hB4w.out.size; omega))
      clear y0 y1 y2 y3 y4 y5 y6 hg6 hb6 hbr
      obtain ⟨CB, hCB⟩ : ∃ b, clash ⟨nm, kd, ab, wt, ⟨v6, hi, lo⟩⟩ ⟨xn, xk, xab, xw, ⟨xv, xh, xl⟩⟩ = b := ⟨_, rfl⟩
      have hrX2 := hrX.out
      have hno3 := hno2.out
      rw [hCB] at hrX2 hno3
      clear hrX hno2
      obtain ⟨bn, hbn⟩ : ∃ b, decide (xn = nm) = b := ⟨_, rfl⟩
      rw [hbn] at te
      obtain ⟨b4, hb4'⟩ : ∃ b, (kd == 4) = b := ⟨_, rfl⟩
      obtain ⟨bx, hbx⟩ : ∃ b, (xk == 4) = b := ⟨_, rfl⟩
      obtain ⟨ba, hba⟩ : ∃ b, decide ((⟨xv, xh, xl⟩ : Adr) = ⟨v6, hi, lo⟩) = b := ⟨_, rfl⟩
      have hCB2 : (bn || ((b4 && bx) && ba)) = CB := by
        rw [← hCB, ← hbn, ← hb4', ← hbx, ← hba]
        unfold clash
        apply Bool.eq_iff_iff.2
        simp [and_assoc]
      clear hCB
      replace hb6' := hide hb6'
      replace hbW := hide hbW
      replace hrX2 := hide hrX2
      replace hno3 := hide hno3
      go_upto_region 15 with fail
      go_cut [124] from 103 to 123 (fun bv wx => bv = .bool CB ∧ w6 = wx)
      case first =>
        clear hrX2 hno3
        cases bn
        · cases b4
          · obtain rfl : false = CB := hCB2
            go_wp2_with fail
            go_meet
            exact ⟨rfl, rfl⟩
          · cases bx
            · obtain rfl : false = CB := hCB2
              go_wp2_with fail
              go_meet
              exact ⟨rfl, rfl⟩
            · obtain rfl : ba = CB := hCB2
              cases ba
              · have hz0 := of_decide_eq_false hba
                clear hba
                by_cases hv : xv = v6
                · subst hv
                  by_cases hh : xh = hi
                  · subst hh
                    have hl0 : ¬ (xl : Int) = (lo : Int) := fun h => hz0 (by rw [show xl = lo by omega])
                    clear hz0
                    go_wp2_with fail
                    go_meet
                    exact ⟨rfl, rfl⟩
                  · have hh0 : ¬ (xh : Int) = (hi : Int) := by omega
                    clear hz0
                    go_wp2_with fail
                    go_meet
                    exact ⟨rfl, rfl⟩
                · clear hz0
                  go_wp2_with fail
                  go_meet
                  exact ⟨rfl, rfl⟩
              · have hz0 := of_decide_eq_true hba
                obtain ⟨rfl, rfl, rfl⟩ : xv = v6 ∧ xh = hi ∧ xl = lo := by cases hz0; exact ⟨rfl, rfl, rfl⟩
                clear hba hz0
                go_wp2_with fail
                go_meet
                exact ⟨rfl, rfl⟩
        · obtain rfl : true = CB := by rw [← hCB2]; rfl
          go_wp2_with fail
          go_meet
          exact ⟨rfl, rfl⟩
      case rest =>
      obtain ⟨rfl, rfl⟩ := hcut
      clear hCB2 te hbn hb4' hbx hba hgx hgz
      cases CB
      · have hn4 := hno3.out rfl
        clear hno3 hrX2
        replace hn4 := hide hn4
        go_wp2_with fail
        exact ⟨⟨i + 1, by omega, by first | rfl | go_num, hn4.out, hb6'.out⟩, by simp only [intOf]; omega⟩
      · have e8 := hrX2.out rfl
        clear hno3 hrX2
        replace e8 := hide e8
        go_wp2_with fail
        refine bodyPost_ret (v := .int .i64 8) (by simp [results, Tryd.results45, go_sem]) rfl ⟨by rw [e8.out]; rfl, by rw [hz]; exact hbW.out⟩
    · obtain rfl : i = k := by omega
      have hlt : ((i : Int) < (i : Int)) = False := by simp
      have e0 := hrN.out (fun j x hj => hno j x (by have := (List.getElem?_eq_some_iff.1 hj).1; omega) hj)
      have hbW := hB4w.out.trans (hbr.mono (by have := hB4w.out.size; omega))
      clear hno hbr
      replace e0 := hide e0
      replace hbW := hide hbW
      go_wp2_with fail
      refine bodyPost_ret (v := .int .i64 0) (by simp [results, Tryd.results45, go_sem]) rfl ⟨by rw [e0.out]; rfl, by rw [hz]; exact hbW.out⟩
end Tree16
end Go.Proofs.YtcpokkkdmenmgaaDoor
