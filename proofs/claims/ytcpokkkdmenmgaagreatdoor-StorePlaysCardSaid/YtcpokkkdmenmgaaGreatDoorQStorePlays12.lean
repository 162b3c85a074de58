/- conf: a configuration in memory. No condition. -/
import Derived.Test.YtcpokkkdmenmgaaGreatDoorQStorePlays11
import Derived.Test.YtcpokkkdmenmgaaGreatDoorQStorePlays3
namespace Go.Proofs.YtcpokkkdmenmgaaGreatDoor
open Go.RowKit Go.ChangeShapes Go.WideShapes Go.ChangeAt Go.Deep
namespace Conf18
open Addr05 (Adr strv MaxAt)
theorem lt_of_blk {w : World} {g : Nat} {o : Obj} (h : w.heap[g]? = some o) : g < w.heap.size := by
  rcases Nat.lt_or_ge g w.heap.size with h1 | h1
  · exact h1
  · rw [Array.getElem?_eq_none h1] at h; cases h
def adC (a : Adr) : List Value := [.bool a.v6, .int .u64 (a.hi : Int), .int .u64 (a.lo : Int)]
def ndC (n : Nd) : List Value := [.string (str n.name), .int .i64 n.kind, .int .i64 n.above, .int .i64 n.weight, .bool n.a.v6, .int .u64 (n.a.hi : Int), .int .u64 (n.a.lo : Int)]
def vpC (v : Vp) : List Value := [.bool v.a.v6, .int .u64 (v.a.hi : Int), .int .u64 (v.a.lo : Int), .int .i64 v.proto, .int .i64 v.port, .int .i64 v.copies, .bool v.nat]
def vwC (v : Vw) : List Value := [.bool v.a.v6, .int .u64 (v.a.hi : Int), .int .u64 (v.a.lo : Int), .int .i64 v.bits, .int .i64 v.level]
def cfgA (c : Cfg) (nv vv wv e1 e2 : Value) : Array Value :=
  #[nv, vv, wv, .int .i64 c.factor, .int .i64 c.domain, .bool c.s0.v6, .int .u64 (c.s0.hi : Int), .int .u64 (c.s0.lo : Int), .bool c.s1.v6, .int .u64 (c.s1.hi : Int), .int .u64 (c.s1.lo : Int), e1, e2]
theorem info_nd : (Tryz.prog.info? 68).map (fun i => (i.zero, i.size, i.bytes)) = some (some (.agg #[.string ⟨#[]⟩, .int .i64 0, .int .i64 0, .int .i64 0, .bool false, .int .u64 0, .int .u64 0]), 7, 64) := by kernel_rfl
theorem info_vp : (Tryz.prog.info? 70).map (fun i => (i.zero, i.size, i.bytes)) = some (some (.agg #[.bool false, .int .u64 0, .int .u64 0, .int .i64 0, .int .i64 0, .int .i64 0, .bool false]), 7, 56) := by kernel_rfl
theorem info_vw : (Tryz.prog.info? 74).map (fun i => (i.zero, i.size, i.bytes)) = some (some (.agg #[.bool false, .int .u64 0, .int .u64 0, .int .i64 0, .int .i64 0]), 5, 40) := by kernel_rfl
structure CfgAt (w : World) (base x : Nat) (T : TypeId) (e1 e2 : Value) (c : Cfg) (nv vv wv : Value) : Prop where
  blk : w.heap[x]? = some (.cells (cfgA c nv vv wv e1 e2) T (0, 0))
  hx : base ≤ x
  hT : T ≠ 68 ∧ T ≠ 70 ∧ T ≠ 74
  nodes : w.ownsRow base 68 7 nv c.nodes.length (c.nodes.map ndC).flatten
  vips : w.ownsRow base 70 7 vv c.vips.length (c.vips.map vpC).flatten
  views : w.ownsRow base 74 5 wv c.views.length (c.views.map vwC).flatten
section
variable {w w' : World} {base x size n : Nat} {e T : TypeId} {v : Value} {xs : List Value} {cs : Array Value}
theorem row_not_x (h : w.ownsRow base e size v n xs) {fr : Nat × Nat} (hx : w.heap[x]? = some (.cells cs T fr)) (hne : T ≠ e) : v.ownBlock = none ∨ v.ownBlock ≠ some x := by
  rcases h.2 with ⟨rfl, _⟩ | ⟨g, cap, cur, rfl, hg, hh, _⟩
  · exact .inl rfl
  · right
    intro e2
    have : g = x := by simpa [Value.ownBlock] using e2
    subst this
    rw [hh] at hx
    simp at hx
    exact hne hx.2.1.symm
theorem row_not_map (h : w.ownsRow base e size v n xs) {es : Array MapEntry} {k : Nat} (hx : w.heap[x]? = some (.map es k)) : v.ownBlock = none ∨ v.ownBlock ≠ some x := by
  rcases h.2 with ⟨rfl, _⟩ | ⟨g, cap, cur, rfl, hg, hh, _⟩
  · exact .inl rfl
  · right
    intro e2
    have : g = x := by simpa [Value.ownBlock] using e2
    subst this
    rw [hh] at hx
    cases hx
theorem row_set (h : w.ownsRow base e size v n xs) (hx : w.heap[x]? = some (.cells cs T (0, 0))) (hne : T ≠ e) (i : Nat) (u : Value) : (w.setCell ⟨x, i, none⟩ u).ownsRow base e size v n xs := by
  obtain ⟨w2, h1, h2, h3⟩ := store_cell hx i u
  rw [h1]
  exact World.ownsRow.kept h h3 (row_not_x h hx hne)
end
section
variable {w w' : World} {base x : Nat} {T : TypeId} {e1 e2 e1' e2' nv vv wv nv' : Value} {c c' : Cfg}
theorem CfgAt.on (h : CfgAt w base x T e1 e2 c nv vv wv) (hb : Below w.heap.size w w') : CfgAt w' base x T e1 e2 c nv vv wv :=
  ⟨(hb.block x (lt_of_blk h.blk)).trans h.blk, h.hx, h.hT, row_on h.nodes hb, row_on h.vips hb, row_on h.views hb⟩
theorem CfgAt.kept_map {m : Nat} (h : CfgAt w base x T e1 e2 c nv vv wv) (hm : ∃ es k, w.heap[m]? = some (.map es k)) (hg : w.grownBy w' (some m)) : CfgAt w' base x T e1 e2 c nv vv wv := by
  obtain ⟨es, k, hm⟩ := hm
  refine ⟨(hg.block x (lt_of_blk h.blk) ?_).trans h.blk, h.hx, h.hT, World.ownsRow.kept h.nodes hg (row_not_map h.nodes hm), World.ownsRow.kept h.vips hg (row_not_map h.vips hm), World.ownsRow.kept h.views hg (row_not_map h.views hm)⟩
  intro e
  have : x = m := by simpa using e
  subst this
  rw [h.blk] at hm
  cases hm
theorem CfgAt.set (h : CfgAt w base x T e1 e2 c nv vv wv) (i : Nat) (u : Value) (hA : (cfgA c nv vv wv e1 e2).setIfInBounds i u = cfgA c' nv vv wv e1' e2') (h1 : c'.nodes = c.nodes) (h2 : c'.vips = c.vips) (h3 : c'.views = c.views) :
    CfgAt (w.setCell ⟨x, i, none⟩ u) base x T e1' e2' c' nv vv wv :=
  ⟨by rw [← hA]; exact blk_set h.blk i u, h.hx, h.hT, by rw [h1]; exact row_set h.nodes h.blk h.hT.1 i u, by rw [h2]; exact row_set h.vips h.blk h.hT.2.1 i u, by rw [h3]; exact row_set h.views h.blk h.hT.2.2 i u⟩
theorem CfgAt.pushN {nd : Nd} (h : CfgAt w base x T e1 e2 c nv vv wv) (h1 : w'.ownsRow base 68 7 nv' (c.nodes.length + 1) ((c.nodes.map ndC).flatten ++ ndC nd)) (h2 : Grew w nv w' nv') :
    w'.heap[x]? = some (.cells (cfgA c nv vv wv e1 e2) T (0, 0)) ∧ CfgAt (w'.setCell ⟨x, 0, none⟩ nv') base x T e1 e2 { c with nodes := c.nodes ++ [nd] } nv' vv wv := by
  have hb : w'.heap[x]? = some (.cells (cfgA c nv vv wv e1 e2) T (0, 0)) := by
    refine (h2.grown.block x (lt_of_blk h.blk) ?_).trans h.blk
    rcases row_not_x h.nodes h.blk h.hT.1 with h3 | h3
    · rw [h3]; intro e; cases e
    · intro e; exact h3 e.symm
  have r1 := World.ownsRow.kept h.vips h2.grown (rows_apart h.vips h.nodes (by decide))
  have r2 := World.ownsRow.kept h.views h2.grown (rows_apart h.views h.nodes (by decide))
  refine ⟨hb, blk_set hb 0 nv', h.hx, h.hT, ?_, row_set r1 hb h.hT.2.1 0 nv', row_set r2 hb h.hT.2.2 0 nv'⟩
  have h3 := row_set h1 hb h.hT.1 0 nv'
  simpa [List.length_append] using h3
theorem CfgAt.pushV {vp : Vp} (h : CfgAt w base x T e1 e2 c nv vv wv) (h1 : w'.ownsRow base 70 7 nv' (c.vips.length + 1) ((c.vips.map vpC).flatten ++ vpC vp)) (h2 : Grew w vv w' nv') :
    w'.heap[x]? = some (.cells (cfgA c nv vv wv e1 e2) T (0, 0)) ∧ CfgAt (w'.setCell ⟨x, 1, none⟩ nv') base x T e1 e2 { c with vips := c.vips ++ [vp] } nv nv' wv := by
  have hb : w'.heap[x]? = some (.cells (cfgA c nv vv wv e1 e2) T (0, 0)) := by
    refine (h2.grown.block x (lt_of_blk h.blk) ?_).trans h.blk
    rcases row_not_x h.vips h.blk h.hT.2.1 with h3 | h3
    · rw [h3]; intro e; cases e
    · intro e; exact h3 e.symm
  have r1 := World.ownsRow.kept h.nodes h2.grown (rows_apart h.nodes h.vips (by decide))
  have r2 := World.ownsRow.kept h.views h2.grown (rows_apart h.views h.vips (by decide))
  refine ⟨hb, blk_set hb 1 nv', h.hx, h.hT, row_set r1 hb h.hT.1 1 nv', ?_, row_set r2 hb h.hT.2.2 1 nv'⟩
  have h3 := row_set h1 hb h.hT.2.1 1 nv'
  simpa [List.length_append] using h3
theorem CfgAt.pushW {vw : Vw} (h : CfgAt w base x T e1 e2 c nv vv wv) (h1 : w'.ownsRow base 74 5 nv' (c.views.length + 1) ((c.views.map vwC).flatten ++ vwC vw)) (h2 : Grew w wv w' nv') :
    w'.heap[x]? = some (.cells (cfgA c nv vv wv e1 e2) T (0, 0)) ∧ CfgAt (w'.setCell ⟨x, 2, none⟩ nv') base x T e1 e2 { c with views := c.views ++ [vw] } nv vv nv' := by
  have hb : w'.heap[x]? = some (.cells (cfgA c nv vv wv e1 e2) T (0, 0)) := by
    refine (h2.grown.block x (lt_of_blk h.blk) ?_).trans h.blk
    rcases row_not_x h.views h.blk h.hT.2.2 with h3 | h3
    · rw [h3]; intro e; cases e
    · intro e; exact h3 e.symm
  have r1 := World.ownsRow.kept h.nodes h2.grown (rows_apart h.nodes h.views (by decide))
  have r2 := World.ownsRow.kept h.vips h2.grown (rows_apart h.vips h.views (by decide))
  refine ⟨hb, blk_set hb 2 nv', h.hx, h.hT, row_set r1 hb h.hT.1 2 nv', row_set r2 hb h.hT.2.1 2 nv', ?_⟩
  have h3 := row_set h1 hb h.hT.2.2 2 nv'
  simpa [List.length_append] using h3
end
/-! ### The reader: two maps. -/
def seenF (c : Cfg) (y : List UInt8) : Bool := if y = wFactor then c.fs else if y = wDomain then c.ds else false
structure RdC (w : World) (base x mb ma : Nat) (c : Cfg) (nv vv wv : Value) : Prop where
  cfg : CfgAt w base x 98 (.map (some mb)) (.map (some ma)) c nv vv wv
  hb : base ≤ mb
  ha : base ≤ ma
  ne : mb ≠ ma
  seen : MapB w mb (c.fs.toNat + c.ds.toNat) (seenF c)
  names : MapI w ma c.nodes.length (atN c.nodes)
def RdAt (base x : Nat) (w : World) (c : Cfg) : Prop := ∃ mb ma nv vv wv, RdC w base x mb ma c nv vv wv
def LineEnd (P : World → Cfg → Prop) (base : Nat) (r : Except Nat Cfg) (w w' : World) (e : Ending) : Prop :=
  (∃ n, r = .error n ∧ 0 < n ∧ e = .returned (.int .i64 (n : Int)) ∧ Below w.heap.size w w') ∨ (∃ c, r = .ok c ∧ e = .returned (.int .i64 0) ∧ P w' c ∧ Below base w w')
section
variable {w w' : World} {base x mb ma : Nat} {nv vv wv nv' : Value} {c c' : Cfg}
theorem RdC.on (h : RdC w base x mb ma c nv vv wv) (hb : Below w.heap.size w w') : RdC w' base x mb ma c nv vv wv :=
  ⟨h.cfg.on hb, h.hb, h.ha, h.ne, h.seen.kept (row := none) ⟨hb.os, hb.tape, hb.output, hb.size, fun k hk _ => hb.block k hk⟩ (by simp), h.names.kept (row := none) ⟨hb.os, hb.tape, hb.output, hb.size, fun k hk _ => hb.block k hk⟩ (by simp)⟩
theorem x_not_map {es : Array MapEntry} {k m : Nat} {cs : Array Value} {T : TypeId} {fr : Nat × Nat} (h : w.heap[x]? = some (.cells cs T fr)) (hm : w.heap[m]? = some (.map es k)) : m ≠ x := by
  rintro rfl
  rw [h] at hm
  cases hm
theorem RdC.set (h : RdC w base x mb ma c nv vv wv) (i : Nat) (u : Value) (hA : (cfgA c nv vv wv (.map (some mb)) (.map (some ma))).setIfInBounds i u = cfgA c' nv vv wv (.map (some mb)) (.map (some ma))) (h1 : c'.nodes = c.nodes) (h2 : c'.vips = c.vips) (h3 : c'.views = c.views) (h4 : c'.fs = c.fs) (h5 : c'.ds = c.ds) :
    RdC (w.setCell ⟨x, i, none⟩ u) base x mb ma c' nv vv wv := by
  obtain ⟨w2, g1, g2, g3⟩ := store_cell h.cfg.blk i u
  have hc := h.cfg.set (c' := c') i u hA h1 h2 h3
  rw [g1] at hc ⊢
  obtain ⟨es, k, hm⟩ := h.seen.blk
  obtain ⟨es', k', hm'⟩ := h.names.blk
  refine ⟨hc, h.hb, h.ha, h.ne, ?_, ?_⟩
  · rw [show seenF c' = seenF c by funext y; unfold seenF; rw [h4, h5], h4, h5]
    exact h.seen.kept g3 (by intro e; exact x_not_map h.cfg.blk hm (by simpa using e))
  · rw [h1]
    exact h.names.kept g3 (by intro e; exact x_not_map h.cfg.blk hm' (by simpa using e))
theorem RdC.below_set (h : RdC w base x mb ma c nv vv wv) (i : Nat) (u : Value) : Below base w (w.setCell ⟨x, i, none⟩ u) := (Below.refl _ _).setCell h.cfg.hx u
theorem below_of_map {m : Nat} (hg : w.grownBy w' (some m)) (h1 : base ≤ m) : Below base w w' ∨ w.heap.size < base := by
  rcases Nat.lt_or_ge w.heap.size base with h | h
  · exact .inr h
  · exact .inl (below_of_grown hg h fun k hk => by cases hk; exact h1)
end
/-- Words where they lie. -/
theorem words_at {w : World} {base : Nat} {A : Option Addr} {ws : List (List UInt8)} (h : IsR strv w base A ws.length ws) (h0 : 0 < ws.length) : ∃ b off, A = some ⟨b, off, none⟩ ∧ b < base ∧ ∀ i, i < ws.length → w.cell? ⟨b, off + i, none⟩ = some (.string (str (wd ws i))) := by
  obtain ⟨b, off, e, hb, hc⟩ := h.2 h0
  refine ⟨b, off, e, hb, fun i hi => ?_⟩
  have h1 := hc i (by rw [List.length_map]; exact hi)
  rw [List.getElem_map] at h1
  rw [h1, wd_get (List.getElem?_eq_getElem hi)]
  rfl
end Conf18
end Go.Proofs.YtcpokkkdmenmgaaGreatDoor
/- conf: the reader in memory: what each change leaves. No condition. -/
namespace Go.Proofs.YtcpokkkdmenmgaaGreatDoor
open Go.RowKit Go.ChangeShapes Go.WideShapes Go.ChangeAt Go.Deep
namespace Conf18
open Addr05 (Adr strv MaxAt)
theorem vwC_one (v : Vw) : ∀ u ∈ vwC v, u.oneCell' = true := by
  intro u hu
  simp only [vwC, List.mem_cons, List.not_mem_nil, or_false] at hu
  rcases hu with rfl | rfl | rfl | rfl | rfl <;> rfl
theorem vpC_one (v : Vp) : ∀ u ∈ vpC v, u.oneCell' = true := by
  intro u hu
  simp only [vpC, List.mem_cons, List.not_mem_nil, or_false] at hu
  rcases hu with rfl | rfl | rfl | rfl | rfl | rfl | rfl <;> rfl
theorem ndC_one (v : Nd) : ∀ u ∈ ndC v, u.oneCell' = true := by
  intro u hu
  simp only [ndC, List.mem_cons, List.not_mem_nil, or_false] at hu
  rcases hu with rfl | rfl | rfl | rfl | rfl | rfl | rfl <;> rfl
section
variable {w w' : World} {base x mb ma : Nat} {nv vv wv nv' : Value} {c c' : Cfg}
theorem RdC.xlt (h : RdC w base x mb ma c nv vv wv) : x < w.heap.size := lt_of_blk h.cfg.blk
theorem RdC.mlt (h : RdC w base x mb ma c nv vv wv) : mb < w.heap.size ∧ ma < w.heap.size := by
  obtain ⟨_, _, h1⟩ := h.seen.blk
  obtain ⟨_, _, h2⟩ := h.names.blk
  constructor
  · rcases Nat.lt_or_ge mb w.heap.size with h3 | h3
    · exact h3
    · rw [Array.getElem?_eq_none h3] at h1; cases h1
  · rcases Nat.lt_or_ge ma w.heap.size with h3 | h3
    · exact h3
    · rw [Array.getElem?_eq_none h3] at h2; cases h2
/-- A word is seen. -/
theorem RdC.once (h : RdC w base x mb ma c nv vv wv) {g : List UInt8 → Bool} (hg : w.grownBy w' (some mb)) (hM : MapB w' mb (c'.fs.toNat + c'.ds.toNat) g) (hs : g = seenF c') (e1 : c'.nodes = c.nodes) (hc : CfgAt w base x 98 (.map (some mb)) (.map (some ma)) c' nv vv wv) : RdC w' base x mb ma c' nv vv wv :=
  ⟨hc.kept_map (by obtain ⟨es, k, h1⟩ := h.seen.blk; exact ⟨es, k, h1⟩) hg, h.hb, h.ha, h.ne, hs ▸ hM, by rw [e1]; exact h.names.kept hg (by intro e; exact h.ne (Option.some.inj e).symm)⟩
theorem RdC.as {c' : Cfg} (h : CfgAt w base x 98 (.map (some mb)) (.map (some ma)) c nv vv wv) (hA : cfgA c' nv vv wv (.map (some mb)) (.map (some ma)) = cfgA c nv vv wv (.map (some mb)) (.map (some ma))) (h1 : c'.nodes = c.nodes) (h2 : c'.vips = c.vips) (h3 : c'.views = c.views) :
    CfgAt w base x 98 (.map (some mb)) (.map (some ma)) c' nv vv wv :=
  ⟨by rw [hA]; exact h.blk, h.hx, h.hT, by rw [h1]; exact h.nodes, by rw [h2]; exact h.vips, by rw [h3]; exact h.views⟩
theorem RdC.pushV {vp : Vp} (h : RdC w base x mb ma c nv vv wv) (h1 : w'.ownsRow base 70 7 nv' (c.vips.length + 1) ((c.vips.map vpC).flatten ++ vpC vp)) (h2 : Grew w vv w' nv') :
    w'.heap[x]? = some (.cells (cfgA c nv vv wv (.map (some mb)) (.map (some ma))) 98 (0, 0)) ∧ RdC (w'.setCell ⟨x, 1, none⟩ nv') base x mb ma { c with vips := c.vips ++ [vp] } nv nv' wv := by
  obtain ⟨h3, h4⟩ := h.cfg.pushV h1 h2
  obtain ⟨w2, g1, g2, g3⟩ := store_cell h3 1 nv'
  refine ⟨h3, ?_⟩
  rw [g1] at h4 ⊢
  obtain ⟨es, k, hm⟩ := h.seen.blk
  obtain ⟨es', k', hm'⟩ := h.names.blk
  have a1 := h.seen.kept h2.grown (by rcases row_not_map h.cfg.vips hm with e | e <;> (intro e2; first | (rw [e] at e2; cases e2) | exact e e2.symm))
  have a2 := h.names.kept h2.grown (by rcases row_not_map h.cfg.vips hm' with e | e <;> (intro e2; first | (rw [e] at e2; cases e2) | exact e e2.symm))
  exact ⟨h4, h.hb, h.ha, h.ne, a1.kept g3 (by intro e; exact x_not_map h.cfg.blk hm (by simpa using e)), a2.kept g3 (by intro e; exact x_not_map h.cfg.blk hm' (by simpa using e))⟩
theorem RdC.pushW {vw : Vw} (h : RdC w base x mb ma c nv vv wv) (h1 : w'.ownsRow base 74 5 nv' (c.views.length + 1) ((c.views.map vwC).flatten ++ vwC vw)) (h2 : Grew w wv w' nv') :
    w'.heap[x]? = some (.cells (cfgA c nv vv wv (.map (some mb)) (.map (some ma))) 98 (0, 0)) ∧ RdC (w'.setCell ⟨x, 2, none⟩ nv') base x mb ma { c with views := c.views ++ [vw] } nv vv nv' := by
  obtain ⟨h3, h4⟩ := h.cfg.pushW h1 h2
  obtain ⟨w2, g1, g2, g3⟩ := store_cell h3 2 nv'
  refine ⟨h3, ?_⟩
  rw [g1] at h4 ⊢
  obtain ⟨es, k, hm⟩ := h.seen.blk
  obtain ⟨es', k', hm'⟩ := h.names.blk
  have a1 := h.seen.kept h2.grown (by rcases row_not_map h.cfg.views hm with e | e <;> (intro e2; first | (rw [e] at e2; cases e2) | exact e e2.symm))
  have a2 := h.names.kept h2.grown (by rcases row_not_map h.cfg.views hm' with e | e <;> (intro e2; first | (rw [e] at e2; cases e2) | exact e e2.symm))
  exact ⟨h4, h.hb, h.ha, h.ne, a1.kept g3 (by intro e; exact x_not_map h.cfg.blk hm (by simpa using e)), a2.kept g3 (by intro e; exact x_not_map h.cfg.blk hm' (by simpa using e))⟩
/-- A node's name is known: the map says more than the nodes. -/
structure RdN (w : World) (base x mb ma : Nat) (c : Cfg) (s : List UInt8) (nv vv wv : Value) : Prop where
  cfg : CfgAt w base x 98 (.map (some mb)) (.map (some ma)) c nv vv wv
  hb : base ≤ mb
  ha : base ≤ ma
  ne : mb ≠ ma
  seen : MapB w mb (c.fs.toNat + c.ds.toNat) (seenF c)
  names : MapI w ma (c.nodes.length + 1) (fun y => if y = s then some c.nodes.length else atN c.nodes y)
theorem RdC.named (h : RdC w base x mb ma c nv vv wv) {s : List UInt8} (hg : w.grownBy w' (some ma)) (hM : MapI w' ma (c.nodes.length + 1) (fun y => if y = s then some c.nodes.length else atN c.nodes y)) : RdN w' base x mb ma c s nv vv wv :=
  ⟨h.cfg.kept_map (by obtain ⟨es, k, h1⟩ := h.names.blk; exact ⟨es, k, h1⟩) hg, h.hb, h.ha, h.ne, h.seen.kept hg (by intro e; exact h.ne (Option.some.inj e)), hM⟩
theorem RdN.on {s : List UInt8} (h : RdN w base x mb ma c s nv vv wv) (hb : Below w.heap.size w w') : RdN w' base x mb ma c s nv vv wv :=
  ⟨h.cfg.on hb, h.hb, h.ha, h.ne, h.seen.kept (row := none) ⟨hb.os, hb.tape, hb.output, hb.size, fun k hk _ => hb.block k hk⟩ (by simp), h.names.kept (row := none) ⟨hb.os, hb.tape, hb.output, hb.size, fun k hk _ => hb.block k hk⟩ (by simp)⟩
theorem atN_snoc (ns : List Nd) (nd : Nd) (h : atN ns nd.name = none) : atN (ns ++ [nd]) = fun y => if y = nd.name then some ns.length else atN ns y := by
  funext y
  unfold atN at h ⊢
  rw [List.findIdx?_append]
  by_cases e : y = nd.name
  · subst e
    rw [h, if_pos rfl]
    simp [List.findIdx?_cons]
  · rw [if_neg e]
    have : List.findIdx? (fun n : Nd => decide (n.name = y)) [nd] = none := by
      simp [List.findIdx?_cons]
      exact fun e2 => e e2.symm
    rw [this]
    simp
theorem RdN.pushN {nd : Nd} (h : RdN w base x mb ma c nd.name nv vv wv) (hn : atN c.nodes nd.name = none) (h1 : w'.ownsRow base 68 7 nv' (c.nodes.length + 1) ((c.nodes.map ndC).flatten ++ ndC nd)) (h2 : Grew w nv w' nv') :
    w'.heap[x]? = some (.cells (cfgA c nv vv wv (.map (some mb)) (.map (some ma))) 98 (0, 0)) ∧ RdC (w'.setCell ⟨x, 0, none⟩ nv') base x mb ma { c with nodes := c.nodes ++ [nd] } nv' vv wv := by
  obtain ⟨h3, h4⟩ := h.cfg.pushN h1 h2
  obtain ⟨w2, g1, g2, g3⟩ := store_cell h3 0 nv'
  refine ⟨h3, ?_⟩
  rw [g1] at h4 ⊢
  obtain ⟨es, k, hm⟩ := h.seen.blk
  obtain ⟨es', k', hm'⟩ := h.names.blk
  have a1 := h.seen.kept h2.grown (by rcases row_not_map h.cfg.nodes hm with e | e <;> (intro e2; first | (rw [e] at e2; cases e2) | exact e e2.symm))
  have a2 := h.names.kept h2.grown (by rcases row_not_map h.cfg.nodes hm' with e | e <;> (intro e2; first | (rw [e] at e2; cases e2) | exact e e2.symm))
  refine ⟨h4, h.hb, h.ha, h.ne, a1.kept g3 (by intro e; exact x_not_map h.cfg.blk hm (by simpa using e)), ?_⟩
  have a3 := a2.kept g3 (by intro e; exact x_not_map h.cfg.blk hm' (by simpa using e))
  rw [atN_snoc _ _ hn, List.length_append]
  exact a3
end
end Conf18
end Go.Proofs.YtcpokkkdmenmgaaGreatDoor
/- conf: factor, domain: a line that sets a number. Conditions: words of at most 2^16 bytes. -/
namespace Go.Proofs.YtcpokkkdmenmgaaGreatDoor
open Go.RowKit Go.ChangeShapes Go.WideShapes Go.ChangeAt Go.Deep
namespace Conf18
open Addr05 (Adr strv MaxAt)
theorem lexV_none : lexV none = .tuple #[.int .i64 0, .bool false] := rfl
theorem lexV_some (n : Nat) : lexV (some n) = .tuple #[.int .i64 (n : Int), .bool true] := rfl
theorem ne_nat {n k : Nat} (h : n ≠ k) : (((n : Int) != ((k : Nat) : Int)) : Bool) = true := by
  rw [bne_iff_ne]
  omega
theorem two_words {α : Type} {l : List α} (h : l.length = 2) : ∃ a b, l = [a, b] := by
  match l, h with
  | [a, b], _ => exact ⟨a, b, rfl⟩
theorem three_words {α : Type} {l : List α} (h : l.length = 3) : ∃ a b c, l = [a, b, c] := by
  match l, h with
  | [a, b, c], _ => exact ⟨a, b, c, rfl⟩
theorem lineEnd_err {P : World → Cfg → Prop} {base : Nat} {r : Except Nat Cfg} {w w' : World} {n : Nat} (hr : r = .error n) (h0 : 0 < n) (hb : Below w.heap.size w w') : LineEnd P base r w w' (.returned (.int .i64 (n : Int))) := .inl ⟨n, hr, h0, rfl, hb⟩
theorem lineEnd_ok {P : World → Cfg → Prop} {base : Nat} {r : Except Nat Cfg} {w w' : World} {c : Cfg} (hr : r = .ok c) (hP : P w' c) (hb : Below base w w') : LineEnd P base r w w' (.returned (.int .i64 0)) := .inr ⟨c, hr, rfl, hP, hb⟩
theorem seen_fs (c : Cfg) : seenF c wFactor = c.fs := by unfold seenF; rw [if_pos rfl]
theorem seen_ds (c : Cfg) : seenF c wDomain = c.ds := by unfold seenF; rw [if_neg (by decide), if_pos rfl]
set_option maxRecDepth 20000 in
set_option maxHeartbeats 8000000 in
theorem factor_any (ws : List (List UInt8)) (c : Cfg) (w : World) (base x k : Nat) (A : Option Addr) (hx : IsR strv w base A ws.length ws) (hl : ∀ y ∈ ws, y.length ≤ 65536) (hR : RdAt base x w c) :
    Calls Tryz.prog 46 #[.pointer (some ⟨x, 0, none⟩), .slice A ws.length k] w fun e w' => LineEnd (RdAt base x) base (factorF c ws) w w' e := by
  obtain ⟨r, hr⟩ : ∃ r, factorF c ws = r := ⟨_, rfl⟩
  rw [hr]
  by_cases hn : ws.length = 2
  · obtain ⟨y0, y1, rfl⟩ := two_words hn
    obtain ⟨b, off, rfl, hb, hc⟩ := words_at hx (by simp)
    have c1 : w.cell? ⟨b, off + 1, none⟩ = some (.string (str y1)) := hc 1 (by simp)
    have q := lexNum_any y1 (Nat.le_trans (hl y1 (by simp)) (by decide)) 1000 w
    unfold factorF at hr
    rw [if_neg (by simp), show wd [y0, y1] 1 = y1 from rfl] at hr
    change Calls Tryz.prog _ #[_, .slice _ 2 _] w _
    obtain ⟨mb, ma, nv, vv, wv, h⟩ := hR
    rcases hq : lexF y1 1000 with _ | n
    · rw [hq] at hr q
      rw [lexV_none] at q
      clear hn hx hl hc hq
      replace h := hide h
      replace hr := hide hr
      replace q := hide q
      go_enter Tryz.func46, Tryz.ntmps46
      go_wp2_with fail
      refine (q.out).mono ?_
      rintro e w1 ⟨rfl, rfl⟩
      go_wp2_with fail
      go_ret
      exact lineEnd_err hr.out.symm (by decide) (Below.refl _ _)
    · rw [hq] at hr q
      rw [lexV_some] at q
      dsimp only at hr
      clear hn hx hl hc hq
      by_cases hlt : n < 100
      · rw [if_pos hlt] at hr
        have t : (n : Int) < 100 := by omega
        replace h := hide h
        replace hr := hide hr
        replace q := hide q
        replace hlt := hide hlt
        go_enter Tryz.func46, Tryz.ntmps46
        go_wp2_with fail
        refine (q.out).mono ?_
        rintro e w1 ⟨rfl, rfl⟩
        go_wp2_with fail
        go_ret
        exact lineEnd_err hr.out.symm (by decide) (Below.refl _ _)
      · rw [if_neg hlt] at hr
        have t : ¬ (n : Int) < 100 := by omega
        have q2 := once_any wFactor (by decide) w x mb (c.fs.toNat + c.ds.toNat) (seenF c) (by cases c.fs <;> cases c.ds <;> decide) (blk_cell h.cfg.blk 11) h.seen
        rw [seen_fs] at q2
        unfold wFactor at q2
        have hbx := h.cfg.hx
        have hxs := h.xlt
        obtain ⟨f, hf⟩ : ∃ f, c.fs = f := ⟨_, rfl⟩
        rw [hf] at hr q2
        have hM2 : ∀ w2, MapB w2 mb (f.toNat + c.ds.toNat + 1) (fun z => if z = [102, 97, 99, 116, 111, 114] then true else seenF c z) → f = false → MapB w2 mb (({ c with fs := true } : Cfg).fs.toNat + ({ c with fs := true } : Cfg).ds.toNat) (seenF { c with fs := true }) := by
          intro w2 h1 h2
          subst h2
          have e : (fun z => if z = [102, 97, 99, 116, 111, 114] then true else seenF c z) = seenF { c with fs := true } := by
            funext z
            unfold seenF
            by_cases e1 : z = [102, 97, 99, 116, 111, 114]
            · subst e1; rfl
            · rw [if_neg e1, if_neg (show ¬ z = wFactor from e1), if_neg (show ¬ z = wFactor from e1)]
          rw [e] at h1
          have e3 : false.toNat + c.ds.toNat + 1 = ({ c with fs := true } : Cfg).fs.toNat + ({ c with fs := true } : Cfg).ds.toNat := by
            cases c.ds <;> rfl
          rw [e3] at h1
          exact h1
        cases f
        · rw [if_neg (by simp)] at hr
          replace h := hide h
          replace hr := hide hr
          replace q := hide q
          replace q2 := hide q2
          replace hlt := hide hlt
          replace hf := hide hf
          replace hM2 := hide hM2
          go_enter Tryz.func46, Tryz.ntmps46
          go_wp2_with fail
          refine (q.out).mono ?_
          rintro e w1 ⟨rfl, rfl⟩
          go_wp2_with fail
          refine (q2.out).mono ?_
          rintro e w2 ⟨rfl, -, h2⟩
          obtain ⟨hM, hg⟩ := h2 trivial
          have hb2 := below_of_grown (base := base) hg (by omega) (fun k hk => by cases hk; exact h.out.hb)
          have h2' : RdC w2 base x mb ma { c with fs := true } nv vv wv := h.out.once (c' := { c with fs := true }) hg (hM2.out w2 hM trivial) rfl rfl (RdC.as h.out.cfg rfl rfl rfl rfl)
          have h3 := h2'.set (c' := { c with fs := true, factor := (n : Int) }) 3 (.int .i64 (n : Int)) rfl rfl rfl rfl rfl rfl
          have hb3 := h2'.below_set 3 (.int .i64 (n : Int))
          have hc3 := blk_cell h2'.cfg.blk 3
          have hf3 := blk_free h2'.cfg.blk 3
          clear hM hg h2 q q2 h2' h
          replace hb2 := hide hb2
          replace h3 := hide h3
          replace hb3 := hide hb3
          go_wp2_with fail
          go_ret
          exact lineEnd_ok hr.out.symm ⟨mb, ma, nv, vv, wv, h3.out⟩ (hb2.out.trans hb3.out)
        · rw [if_pos rfl] at hr
          replace h := hide h
          replace hr := hide hr
          replace q := hide q
          replace q2 := hide q2
          replace hlt := hide hlt
          replace hf := hide hf
          replace hM2 := hide hM2
          go_enter Tryz.func46, Tryz.ntmps46
          go_wp2_with fail
          refine (q.out).mono ?_
          rintro e w1 ⟨rfl, rfl⟩
          go_wp2_with fail
          refine (q2.out).mono ?_
          rintro e w2 ⟨rfl, h2, -⟩
          obtain rfl := h2 trivial
          go_wp2_with fail
          go_ret
          exact lineEnd_err hr.out.symm (by decide) (Below.refl _ _)
  · have t : ((ws.length : Int) != 2) = true := ne_nat (k := 2) hn
    unfold factorF at hr
    rw [if_pos hn] at hr
    clear hn hx hl
    replace hR := hide hR
    replace hr := hide hr
    go_enter Tryz.func46, Tryz.ntmps46
    go_wp2_with fail
    go_ret
    exact lineEnd_err hr.out.symm (by decide) (Below.refl _ _)
theorem cast_kind (y : List UInt8) : (kindF y : Int) = ((kindF y : Nat) : Int) := rfl
set_option maxRecDepth 20000 in
set_option maxHeartbeats 8000000 in
theorem domain_any (ws : List (List UInt8)) (c : Cfg) (w : World) (base x k : Nat) (A : Option Addr) (hx : IsR strv w base A ws.length ws) (hR : RdAt base x w c) :
    Calls Tryz.prog 47 #[.pointer (some ⟨x, 0, none⟩), .slice A ws.length k] w fun e w' => LineEnd (RdAt base x) base (domainF c ws) w w' e := by
  obtain ⟨r, hr⟩ : ∃ r, domainF c ws = r := ⟨_, rfl⟩
  rw [hr]
  by_cases hn : ws.length = 2
  · obtain ⟨y0, y1, rfl⟩ := two_words hn
    obtain ⟨b, off, rfl, hb, hc⟩ := words_at hx (by simp)
    have c1 : w.cell? ⟨b, off + 1, none⟩ = some (.string (str y1)) := hc 1 (by simp)
    unfold domainF at hr
    rw [show wd [y0, y1] 1 = y1 from rfl] at hr
    change Calls Tryz.prog _ #[_, .slice _ 2 _] w _
    obtain ⟨mb, ma, nv, vv, wv, h⟩ := hR
    have t1 := eqw y1 [122, 111, 110, 101]
    have t2 := eqw y1 [114, 97, 99, 107]
    clear hn hx hc
    by_cases hok : y1 = wZone ∨ y1 = wRack
    · have hno : ¬ ([y0, y1].length ≠ 2 ∨ (y1 ≠ wZone ∧ y1 ≠ wRack)) := by
        rintro (h1 | ⟨h1, h2⟩)
        · exact h1 rfl
        · rcases hok with h3 | h3
          · exact h1 h3
          · exact h2 h3
      rw [if_neg hno] at hr
      have q2 := once_any wDomain (by decide) w x mb (c.fs.toNat + c.ds.toNat) (seenF c) (by cases c.fs <;> cases c.ds <;> decide) (blk_cell h.cfg.blk 11) h.seen
      rw [seen_ds] at q2
      unfold wDomain at q2
      have hbx := h.cfg.hx
      have hxs := h.xlt
      obtain ⟨d, hd⟩ : ∃ d, c.ds = d := ⟨_, rfl⟩
      rw [hd] at hr q2
      have hM2 : ∀ w2, MapB w2 mb (c.fs.toNat + d.toNat + 1) (fun z => if z = [100, 111, 109, 97, 105, 110] then true else seenF c z) → d = false → MapB w2 mb (({ c with ds := true } : Cfg).fs.toNat + ({ c with ds := true } : Cfg).ds.toNat) (seenF { c with ds := true }) := by
        intro w2 h1 h2
        subst h2
        have e : (fun z => if z = [100, 111, 109, 97, 105, 110] then true else seenF c z) = seenF { c with ds := true } := by
          funext z
          unfold seenF
          by_cases e1 : z = [100, 111, 109, 97, 105, 110]
          · subst e1; rw [if_pos rfl, if_neg (by decide), if_pos (by rfl)]
          · rw [if_neg e1]
            by_cases e2 : z = wFactor
            · rw [if_pos e2, if_pos e2]
            · rw [if_neg e2, if_neg e2, if_neg (show ¬ z = wDomain from e1), if_neg (show ¬ z = wDomain from e1)]
        rw [e] at h1
        exact h1
      rcases hok with hz | hz
      · subst hz
        rw [decide_eq_true (by rfl)] at t1
        rw [decide_eq_false (by decide)] at t2
        have qk := fun w => kind_any wZone w
        rw [show kindF wZone = 2 from rfl] at qk hr
        cases d
        · rw [if_neg (by simp)] at hr
          replace h := hide h
          replace hr := hide hr
          replace q2 := hide q2
          replace qk := hide qk
          replace hM2 := hide hM2
          replace hd := hide hd
          go_enter Tryz.func47, Tryz.ntmps47
          go_wp2_with fail
          refine (q2.out).mono ?_
          rintro e w2 ⟨rfl, -, h2⟩
          obtain ⟨hM, hg⟩ := h2 trivial
          have hb2 := below_of_grown (base := base) hg (by omega) (fun k hk => by cases hk; exact h.out.hb)
          have h2' : RdC w2 base x mb ma { c with ds := true } nv vv wv := h.out.once (c' := { c with ds := true }) hg (hM2.out w2 hM trivial) rfl rfl (RdC.as h.out.cfg rfl rfl rfl rfl)
          have h3 := h2'.set (c' := { c with ds := true, domain := 2 }) 4 (.int .i64 2) rfl rfl rfl rfl rfl rfl
          have hb3 := h2'.below_set 4 (.int .i64 2)
          have hc3 := blk_cell h2'.cfg.blk 4
          have hf3 := blk_free h2'.cfg.blk 4
          have c1' := (hb2.cell (p := ⟨b, off + 1, none⟩) hb).trans c1
          clear hM hg h2 q2 h2' h hM2
          replace hb2 := hide hb2
          replace h3 := hide h3
          replace hb3 := hide hb3
          go_wp2_with fail
          refine (qk.out _).mono ?_
          rintro e w3 ⟨rfl, rfl⟩
          go_wp2_with fail
          go_ret
          exact lineEnd_ok hr.out.symm ⟨mb, ma, nv, vv, wv, h3.out⟩ (hb2.out.trans hb3.out)
        · rw [if_pos rfl] at hr
          replace h := hide h
          replace hr := hide hr
          replace q2 := hide q2
          replace qk := hide qk
          replace hM2 := hide hM2
          replace hd := hide hd
          go_enter Tryz.func47, Tryz.ntmps47
          go_wp2_with fail
          refine (q2.out).mono ?_
          rintro e w2 ⟨rfl, h2, -⟩
          obtain rfl := h2 trivial
          go_wp2_with fail
          go_ret
          exact lineEnd_err hr.out.symm (by decide) (Below.refl _ _)
      · subst hz
        rw [decide_eq_false (by decide)] at t1
        rw [decide_eq_true (by rfl)] at t2
        have qk := fun w => kind_any wRack w
        rw [show kindF wRack = 3 from rfl] at qk hr
        cases d
        · rw [if_neg (by simp)] at hr
          replace h := hide h
          replace hr := hide hr
          replace q2 := hide q2
          replace qk := hide qk
          replace hM2 := hide hM2
          replace hd := hide hd
          go_enter Tryz.func47, Tryz.ntmps47
          go_wp2_with fail
          refine (q2.out).mono ?_
          rintro e w2 ⟨rfl, -, h2⟩
          obtain ⟨hM, hg⟩ := h2 trivial
          have hb2 := below_of_grown (base := base) hg (by omega) (fun k hk => by cases hk; exact h.out.hb)
          have h2' : RdC w2 base x mb ma { c with ds := true } nv vv wv := h.out.once (c' := { c with ds := true }) hg (hM2.out w2 hM trivial) rfl rfl (RdC.as h.out.cfg rfl rfl rfl rfl)
          have h3 := h2'.set (c' := { c with ds := true, domain := 3 }) 4 (.int .i64 3) rfl rfl rfl rfl rfl rfl
          have hb3 := h2'.below_set 4 (.int .i64 3)
          have hc3 := blk_cell h2'.cfg.blk 4
          have hf3 := blk_free h2'.cfg.blk 4
          have c1' := (hb2.cell (p := ⟨b, off + 1, none⟩) hb).trans c1
          clear hM hg h2 q2 h2' h hM2
          replace hb2 := hide hb2
          replace h3 := hide h3
          replace hb3 := hide hb3
          go_wp2_with fail
          refine (qk.out _).mono ?_
          rintro e w3 ⟨rfl, rfl⟩
          go_wp2_with fail
          go_ret
          exact lineEnd_ok hr.out.symm ⟨mb, ma, nv, vv, wv, h3.out⟩ (hb2.out.trans hb3.out)
        · rw [if_pos rfl] at hr
          replace h := hide h
          replace hr := hide hr
          replace q2 := hide q2
          replace qk := hide qk
          replace hM2 := hide hM2
          replace hd := hide hd
          go_enter Tryz.func47, Tryz.ntmps47
          go_wp2_with fail
          refine (q2.out).mono ?_
          rintro e w2 ⟨rfl, h2, -⟩
          obtain rfl := h2 trivial
          go_wp2_with fail
          go_ret
          exact lineEnd_err hr.out.symm (by decide) (Below.refl _ _)
    · have h1 : y1 ≠ wZone := fun e => hok (.inl e)
      have h2 : y1 ≠ wRack := fun e => hok (.inr e)
      rw [if_pos (.inr ⟨h1, h2⟩)] at hr
      rw [decide_eq_false (show ¬ y1 = [122, 111, 110, 101] from h1)] at t1
      rw [decide_eq_false (show ¬ y1 = [114, 97, 99, 107] from h2)] at t2
      replace h := hide h
      replace hr := hide hr
      replace hok := hide hok
      replace h1 := hide h1
      replace h2 := hide h2
      go_enter Tryz.func47, Tryz.ntmps47
      go_wp2_with fail
      go_ret
      exact lineEnd_err hr.out.symm (by decide) (Below.refl _ _)
  · have t : ((ws.length : Int) != 2) = true := ne_nat (k := 2) hn
    unfold domainF at hr
    rw [if_pos (.inl hn)] at hr
    clear hn hx
    replace hR := hide hR
    replace hr := hide hr
    go_enter Tryz.func47, Tryz.ntmps47
    go_wp2_with fail
    go_ret
    exact lineEnd_err hr.out.symm (by decide) (Below.refl _ _)
end Conf18
end Go.Proofs.YtcpokkkdmenmgaaGreatDoor
/- conf: nodes in memory, ahead of the lines that say them. No condition. -/
namespace Go.Proofs.YtcpokkkdmenmgaaGreatDoor
open Go.RowKit Go.ChangeShapes Go.WideShapes Go.ChangeAt Go.Deep
namespace Conf18
open Addr05
theorem alloc_nd (o : Oper) (h : o.op = .alloc 68) (ρ : Operand → Value) (w : World) : (execOp ρ o).run Tryz.prog w = .ok (.value (.pointer (some ⟨w.heap.size, 0, none⟩))) (w.alloc (.cells #[.string ⟨#[]⟩, .int .i64 0, .int .i64 0, .int .i64 0, .bool false, .int .u64 0, .int .u64 0] 68)) := by
  obtain ⟨d, op, t, ps, af, g⟩ := o
  dsimp only at h
  subst h
  kernel_rfl
theorem nd_one (s : ByteArray) (k a v : Int) (v6 : Bool) (hi lo : Int) : (#[.string s, .int .i64 k, .int .i64 a, .int .i64 v, .bool v6, .int .u64 hi, .int .u64 lo] : Array Value).all (·.oneCell') = true := all_oneCell_toArray (by
  intro u hu
  simp only [List.mem_cons, List.not_mem_nil, or_false] at hu
  rcases hu with rfl | rfl | rfl | rfl | rfl | rfl | rfl <;> rfl)
theorem idx_most (k : Nat) (h1 : 1 ≤ k) (h4 : k ≤ 4) (w : World) : (Instr.index 128 (.agg #[.int .i64 0, .int .i64 2, .int .i64 4, .int .i64 4, .int .i64 5]) (.int .i64 (k : Int))).run Tryz.prog w = .ok (.int .i64 (mostF k : Int)) w := by
  rcases (by omega : k = 1 ∨ k = 2 ∨ k = 3 ∨ k = 4) with rfl | rfl | rfl | rfl <;> kernel_rfl
theorem idx_least (k : Nat) (h1 : 1 ≤ k) (h4 : k ≤ 4) (w : World) : (Instr.index 128 (.agg #[.int .i64 0, .int .i64 2, .int .i64 3, .int .i64 3, .int .i64 5]) (.int .i64 (k : Int))).run Tryz.prog w = .ok (.int .i64 (leastF k : Int)) w := by
  rcases (by omega : k = 1 ∨ k = 2 ∨ k = 3 ∨ k = 4) with rfl | rfl | rfl | rfl <;> kernel_rfl
instance isRel_below (B : Nat) : IsRel (Below B) := ⟨Below.refl B, fun _ _ _ h k => h.trans k⟩
/-- A new cell of the call's own is told otherwise. -/
theorem loc_set {w w' : World} {z : Nat} {cs cs' : Array Value} {T : TypeId} (hB : Below z w w') (hg : w'.heap[z]? = some (.cells cs T (0, 0))) (i : Nat) (v : Value) (hcs : cs.setIfInBounds i v = cs') : ∃ w2, w'.setCell ⟨z, i, none⟩ v = w2 ∧ Below z w w2 ∧ w2.heap[z]? = some (.cells cs' T (0, 0)) ∧ w2.heap.size = w'.heap.size := by
  subst hcs
  exact ⟨_, rfl, hB.setCell (p := ⟨z, i, none⟩) (Nat.le_refl _) v, blk_set hg i v, by simp [World.setCell]⟩
end Conf18
end Go.Proofs.YtcpokkkdmenmgaaGreatDoor
/- conf: node: a line of 2 words. Conditions: words of at most 2^16 bytes. -/
namespace Go.Proofs.YtcpokkkdmenmgaaGreatDoor
open Go.RowKit Go.ChangeShapes Go.WideShapes Go.ChangeAt Go.Deep
namespace Conf18
open Addr05
set_option maxRecDepth 20000 in
set_option maxHeartbeats 16000000 in
theorem node2_any (y0 y1 : List UInt8) (hk : kindF y0 = 1) (c : Cfg) (w : World) (base x b off cap : Nat) (hb : b < base) (c0 : w.cell? ⟨b, off, none⟩ = some (.string (str y0))) (c1 : w.cell? ⟨b, off + 1, none⟩ = some (.string (str y1))) (_l0 : y0.length ≤ 65536) (l1 : y1.length ≤ 65536) (hm : MaxAt w) (hs : c.small 4096) (hR : RdAt base x w c) :
    Calls Tryz.prog 51 #[.pointer (some ⟨x, 0, none⟩), .slice (some ⟨b, off, none⟩) 2 cap] w fun e w' => LineEnd (RdAt base x) base (nodeF 1 c [y0, y1]) w w' e := by
  obtain ⟨r, hr⟩ : ∃ r, nodeF 1 c [y0, y1] = r := ⟨_, rfl⟩
  rw [hr]
  have hL : leastF 1 = 2 := rfl
  have hM : mostF 1 = 2 := rfl
  have i2 := idx_most 1 (by omega) (by omega)
  have i3 := idx_least 1 (by omega) (by omega)
  rw [hM] at i2
  rw [hL] at i3
  unfold nodeF at hr
  rw [hL, hM, if_neg (by simp only [List.length_cons, List.length_nil]; omega)] at hr
  rw [show aboveF c [y0, y1] = some (-1) from rfl, show weightF 1 [y0, y1] = some 0 from rfl, show nadrF [y0, y1] = some zA from rfl] at hr
  rw [show wd [y0, y1] 1 = y1 from rfl] at hr
  have qk := kind_any y0 w
  rw [hk] at qk
  change Calls Tryz.prog 61 #[.string (str y0)] w fun e w' => e = .returned (.int .i64 1) ∧ w' = w at qk
  change ∀ w, (Instr.index 128 (.agg #[.int .i64 0, .int .i64 2, .int .i64 4, .int .i64 4, .int .i64 5]) (.int .i64 1)).run Tryz.prog w = .ok (.int .i64 2) w at i2
  change ∀ w, (Instr.index 128 (.agg #[.int .i64 0, .int .i64 2, .int .i64 3, .int .i64 3, .int .i64 5]) (.int .i64 1)).run Tryz.prog w = .ok (.int .i64 2) w at i3
  obtain ⟨mb, ma, nv, vv, wv, h⟩ := hR
  have hbx := h.cfg.hx
  have hxs := h.xlt
  have hms := h.mlt
  have hbma := h.ha
  obtain ⟨z, hz⟩ : ∃ z, w.heap.size = z := ⟨_, rfl⟩
  have hbz : base ≤ z := by omega
  have hmaz : ma < z := by omega
  obtain ⟨o1, ho1⟩ : ∃ o, atN c.nodes y1 = o := ⟨_, rfl⟩
  rw [ho1] at hr
  clear hk hL hM
  replace h := hide h
  replace hr := hide hr
  replace qk := hide qk
  replace ho1 := hide ho1
  replace hm := hide hm
  replace hms := hide hms
  go_enter Tryz.func51, Tryz.ntmps51
  go_upto_region 1 with fail
  apply wp_region_lit
  iterate 3 (refine wpList_plain rfl fun K hK => ?_; go_simp; refine hK _ _ ?_; clear hK K)
  refine wpList_plain rfl fun K hK => ?_
  go_simp
  refine (qk.out).mono ?_
  rintro e w ⟨rfl, rfl⟩
  go_simp
  refine hK _ _ ?_
  clear hK K
  iterate 1 (refine wpList_plain rfl fun K hK => ?_; go_simp; refine hK _ _ ?_; clear hK K)
  refine wpl_new rfl rfl 68 _ (alloc_nd _ rfl) 5 rfl (.tmp 20) rfl _ (fun _ => rfl) (fun _ => rfl) rfl (by kernel_rfl) (nd_one ⟨#[]⟩ 1 (-1) 0 false 0 0) ?_
  intro w1 hg1 hb1 hz1
  rw [hz] at hg1 hb1 hz1
  refine wpList_nil ?_
  go_simp
  clear qk
  have c1b := (hb1.cell (p := ⟨b, off + 1, none⟩) (by dsimp only; omega)).trans c1
  obtain ⟨w2, hw2, hb2, hg2, hz2⟩ := loc_set (cs' := #[.string (str y1), .int .i64 1, .int .i64 (-1), .int .i64 0, .bool false, .int .u64 0, .int .u64 0]) hb1 hg1 0 (.string (str y1)) rfl
  have hca := blk_cell hg1
  have hfa := blk_free hg1
  replace hz2 : z < w2.heap.size := by omega
  clear hz1
  replace hb1 := hide hb1
  replace hg1 := hide hg1
  replace hb2 := hide hb2
  replace hg2 := hide hg2
  go_upto_region 22 with fail
  clear hca hfa hw2 hb1 hg1
  replace hb2 := hb2.out
  replace hg2 := hg2.out
  refine wp_region_X (Below (z + 1)) (by as_aux_lemma => kernel_rfl) ?_
  intro w3 hbd
  have hb3 := hb2.trans (hbd.mono (by omega))
  have hg3 := blk_below hbd (by omega) hg2
  have hz3 : z < w3.heap.size := Nat.lt_of_lt_of_le (by omega) hbd.size
  have hR := fun l : RelW (Below (z + 1)) w3 => h.out.on (by rw [hz]; exact hb3.trans (l.hk.mono (by omega)))
  have lx := fun l : RelW (Below (z + 1)) w3 => (show l.w.cell? ⟨x, 12, none⟩ = some (.map (some ma)) from blk_cell (hR l).cfg.blk 12)
  have lk := fun l : RelW (Below (z + 1)) w3 => (hR l).names.look y1 (Nat.le_trans l1 (by decide))
  rw [ho1.out] at lk
  clear hR hbd
  clear hb2 hg2 hz2
  replace hb3 := hide hb3
  replace hg3 := hide hg3
  have lc := fun l : RelW (Below (z + 1)) w3 => (l.hk.cell (p := ⟨z, 0, none⟩) (by dsimp only; omega)).trans (show w3.cell? ⟨z, 0, none⟩ = some (.string (str y1)) from blk_cell hg3.out 0)
  rcases o1 with _ | j1
  · change ∀ l : RelW (Below (z + 1)) w3, (Instr.lookup 54 (.map (some ma)) (.string (str y1)) true).run Tryz.prog l.w = .ok (.tuple #[.int .i64 0, .bool false]) l.w at lk
    refine wpX_seg (Below (z + 1)) 0 12 (fuel := 0) (by as_aux_lemma => kernel_rfl) (fun d _ _ _ _ h => by cases d <;> exact h) (by as_aux_lemma => kernel_rfl) (by as_aux_lemma => kernel_rfl) ?_
    simp only [List.drop_zero, List.take_succ_cons, List.take_zero]
    iterate 12 (refine wpQX_step (fun K hK => ?_); go_simp; refine hK _ ?_; clear hK K)
    refine wpQF_nil ?_
    refine wpF_done (by as_aux_lemma => kernel_rfl) ?_ 0
    clear lk lx lc
    go_upto_region 25 with fail
    refine wp_region_Y [12] (Below (z + 1)) (by as_aux_lemma => kernel_rfl) ?_
    intro w4 hbd
    have hb4 := hb3.out.trans (hbd.mono (by omega))
    have hg4 := blk_below hbd (by omega) hg3.out
    have hz4 : z < w4.heap.size := Nat.lt_of_lt_of_le (by omega) hbd.size
    have hR := fun l : RelW (Below (z + 1)) w4 => h.out.on (by rw [hz]; exact hb4.trans (l.hk.mono (by omega)))
    have hR0 := h.out.on (by rw [hz]; exact hb4)
    have lx := fun l : RelW (Below (z + 1)) w4 => (show l.w.cell? ⟨x, 12, none⟩ = some (.map (some ma)) from blk_cell (hR l).cfg.blk 12)
    have lc := fun l : RelW (Below (z + 1)) w4 => (l.hk.cell (p := ⟨z, 0, none⟩) (by dsimp only; omega)).trans (show w4.cell? ⟨z, 0, none⟩ = some (.string (str y1)) from blk_cell hg4 0)
    obtain ⟨An, cn, hvn, -, -, -⟩ := own_isv hR0.cfg.nodes
    subst hvn
    have ln := fun l : RelW (Below (z + 1)) w4 => (show l.w.cell? ⟨x, 0, none⟩ = some (.slice An c.nodes.length cn) from blk_cell (hR l).cfg.blk 0)
    clear hR hbd
    clear hb3 hg3 hz3
    replace hb4 := hide hb4
    replace hg4 := hide hg4
    replace hR0 := hide hR0
    refine wpY_seg [12] (Below (z + 1)) 0 12 (fuel := 1) (by as_aux_lemma => kernel_rfl) (fun d _ _ _ _ h => by cases d <;> exact h) (by as_aux_lemma => kernel_rfl) (by as_aux_lemma => kernel_rfl) (by as_aux_lemma => kernel_rfl) ?_
    simp only [List.drop_zero, List.take_succ_cons, List.take_zero]
    iterate 12 (refine wpQX_step (fun K hK => ?_); go_simp; refine hK _ ?_; clear hK K)
    refine wpQF_nil ?_
    clear lx lc ln
    refine wpW_step 12 rfl (by as_aux_lemma => kernel_rfl) (fun K hK => ?_)
    rw [if_pos (by unfold Region.wanted; rfl)]
    refine wp_putI (.tmp 113) (.tmp 115) (.tmp 121) rfl ma c.nodes.length (atN c.nodes) y1 c.nodes.length (Nat.le_trans l1 (by decide)) (by have := hs.1; omega) (by have := hs.1; omega) rfl rfl rfl hR0.out.names fun w5 hM hgm v0 => hK _ _ (relY_wr (by as_aux_lemma => kernel_rfl)) ?_
    clear hK K
    have hN := hR0.out.named hgm hM
    have hbb := (hb4.out.mono hbz).trans (below_of_grown (base := base) hgm (by omega) (fun k hk => by cases hk; exact hbma))
    have hg5 := grown_other hgm (by omega) (by omega) hg4.out
    have hz5 : z < w5.heap.size := lt_of_blk hg5
    clear hM hgm hR0 hb4 hg4 hz4
    replace hN := hide hN
    replace hbb := hide hbb
    replace hg5 := hide hg5
    refine wpW_done (by as_aux_lemma => kernel_rfl) ?_ _
    go_upto_region 26 with fail
    have hrx := row_not_x hN.out.cfg.nodes hN.out.cfg.blk hN.out.cfg.hT.1
    have hrz : (Value.slice An c.nodes.length cn).ownBlock = some z → False := fun e => by have := (World.ownsRow.lt h.out.cfg.nodes _ e).2; omega
    refine wp_region_Y [12] (KeptS w5.heap.size (fun k => (Value.slice An c.nodes.length cn).ownBlock = some k)) (by as_aux_lemma => kernel_rfl) ?_
    intro w6 hbd
    have hN6 := hN.out.on hbd
    have hge := blk_below hbd hz5 hg5.out
    have hbe := hbb.out.trans (hbd.mono (by omega))
    have ze := hbd.size
    have lx := fun l : RelW (KeptS w5.heap.size (fun k => (Value.slice An c.nodes.length cn).ownBlock = some k)) w6 => (show l.w.cell? ⟨x, 0, none⟩ = some (Value.slice An c.nodes.length cn) from blk_cell ((l.hk.block x (lt_of_blk hN.out.cfg.blk) (by rcases hrx with e | e <;> (intro e2; first | (rw [e] at e2; cases e2) | exact e e2))).trans hN6.cfg.blk) 0)
    have lz := fun l : RelW (KeptS w5.heap.size (fun k => (Value.slice An c.nodes.length cn).ownBlock = some k)) w6 => blk_cell ((l.hk.block z hz5 hrz).trans hge)
    clear hN hg5 hbb hbd hrx hrz
    replace hN6 := hide hN6
    replace hbe := hide hbe
    refine wpY_seg [12] (KeptS w5.heap.size (fun k => (Value.slice An c.nodes.length cn).ownBlock = some k)) 0 7 (fuel := 6) (by as_aux_lemma => kernel_rfl) (fun d _ _ _ _ h => by cases d <;> exact h) (by as_aux_lemma => kernel_rfl) (by as_aux_lemma => kernel_rfl) (by as_aux_lemma => kernel_rfl) ?_
    simp only [List.drop_zero, List.take_succ_cons, List.take_zero]
    iterate 7 (refine wpQX_step (fun K hK => ?_); go_simp; refine hK _ ?_; clear hK K)
    refine wpQF_nil ?_
    clear lx lz hge
    obtain ⟨ND, hND⟩ : ∃ ND : Nd, ND = ⟨y1, 1, (-1), 0, zA⟩ := ⟨_, rfl⟩
    have hC : ndC ND = [.string (str y1), .int .i64 1, .int .i64 (-1), .int .i64 0, .bool false, .int .u64 0, .int .u64 0] := by rw [hND]; rfl
    refine wpW_step 7 rfl (by as_aux_lemma => kernel_rfl) (fun K hK => ?_)
    go_simp
    refine hK _ _ (relY_of (keptS_of_below ((Below.refl _ _).alloc (Nat.le_refl _) _) ze)) ?_
    clear hK K
    obtain ⟨wt, hwt⟩ : ∃ wt, w6.alloc (.cells (ndC ND).toArray 68) = wt := ⟨_, rfl⟩
    have hbt : Below w6.heap.size w6 wt := hwt ▸ (Below.refl _ _).alloc (Nat.le_refl _) _
    have hnt : wt.heap[w6.heap.size]? = some (.cells (ndC ND).toArray 68 (0, 0)) := hwt ▸ blk_new _ _ _
    rw [hC] at hwt
    change wpW _ _ _ _ _ _ _ _ (w6.alloc (.cells ([.string (str y1), .int .i64 1, .int .i64 (-1), .int .i64 0, .bool false, .int .u64 0, .int .u64 0]).toArray 68))
    rw [hwt]
    have hNt := hN6.out.on hbt
    have hbf := hbe.out.trans (hbt.mono (by omega))
    have zt := hbt.size
    clear hwt hbt hN6 hbe
    refine wpW_step 8 rfl (by as_aux_lemma => kernel_rfl) (fun K hK => ?_)
    rw [if_pos (by unfold Region.wanted; rfl)]
    refine wp_app_c (T := 68) Tryz.underlying26 info_nd rfl (by decide) (by decide) (.tmp 127) (.tmp 129) rfl base _ c.nodes.length _ (ndC ND) w6.heap.size rfl rfl hNt.cfg.nodes hnt rfl (ndC_one _) (by omega) (by have := hs.1; omega) fun v11 w11 h1 h2 => hK _ _ (relY_of ⟨h2.grown.os, h2.grown.tape, h2.grown.output, h2.grown.size, fun k hk hne => h2.grown.block k (by omega) (fun e => hne e.symm)⟩) ?_
    clear hK K hnt
    obtain ⟨A11, c11, hv11, -, -, -⟩ := own_isv h1
    subst hv11
    have hNt2 : RdN wt base x mb ma c ND.name (.slice An c.nodes.length cn) vv wv := by rw [hND]; exact hNt
    obtain ⟨hx11, hL12⟩ := hNt2.pushN (by rw [hND]; exact ho1.out) h1 h2
    have hB11 := hbf.trans (below_of_grown h2.grown (by omega) (fun k hk => (World.ownsRow.lt hNt.cfg.nodes _ hk).1))
    have hB12 : Below base w (w11.setCell ⟨x, 0, none⟩ (.slice A11 (c.nodes.length + 1) c11)) := hB11.setCell (p := ⟨x, 0, none⟩) hbx _
    have hc : w11.cell? ⟨x, 0, none⟩ = some (Value.slice An c.nodes.length cn) := blk_cell hx11 0
    have hf := blk_free hx11 0
    clear h1 h2 hNt hNt2 hbf hB11 hx11
    obtain ⟨w12, hw12⟩ : ∃ w12, w11.setCell ⟨x, 0, none⟩ (.slice A11 (c.nodes.length + 1) c11) = w12 := ⟨_, rfl⟩
    rw [hw12] at hL12 hB12
    replace hL12 := hide hL12
    replace hB12 := hide hB12
    replace hND := hide hND
    replace hC := hide hC
    refine wpW_step 9 rfl (by as_aux_lemma => kernel_rfl) (fun K hK => ?_)
    go_simp
    refine hK _ _ (relY_of (IsRel.refl _)) ?_
    clear hK K
    refine wpW_step 10 rfl (by as_aux_lemma => kernel_rfl) (fun K hK => ?_)
    go_simp
    refine hK _ _ (relY_of (IsRel.refl _)) ?_
    clear hK K
    refine wpW_step 11 rfl (by as_aux_lemma => kernel_rfl) (fun K hK => ?_)
    go_simp
    refine hK _ _ (relY_of (IsRel.refl _)) ?_
    clear hK K
    refine wpW_step 12 rfl (by as_aux_lemma => kernel_rfl) (fun K hK => ?_)
    go_simp
    refine hK _ _ (relY_wr (by as_aux_lemma => kernel_rfl)) ?_
    clear hK K hc hf hw12
    refine wpW_done (by as_aux_lemma => kernel_rfl) ?_ _
    go_wp2_with fail
    refine bodyPost_ret (v := .int .i64 0) (by simp [results, Tryz.results51, go_sem]) rfl ?_
    have hL := hL12.out
    rw [hND.out] at hL
    exact lineEnd_ok hr.out.symm ⟨mb, ma, _, vv, wv, hL⟩ hB12.out
  change ∀ l : RelW (Below (z + 1)) w3, (Instr.lookup 54 (.map (some ma)) (.string (str y1)) true).run Tryz.prog l.w = .ok (.tuple #[.int .i64 (j1 : Int), .bool true]) l.w at lk
  refine wpX_seg (Below (z + 1)) 0 12 (fuel := 0) (by as_aux_lemma => kernel_rfl) (fun d _ _ _ _ h => by cases d <;> exact h) (by as_aux_lemma => kernel_rfl) (by as_aux_lemma => kernel_rfl) ?_
  simp only [List.drop_zero, List.take_succ_cons, List.take_zero]
  iterate 12 (refine wpQX_step (fun K hK => ?_); go_simp; refine hK _ ?_; clear hK K)
  refine wpQF_nil ?_
  refine wpF_done (by as_aux_lemma => kernel_rfl) ?_ 0
  clear lk lx lc
  go_wp2_with fail
  refine bodyPost_ret (v := .int .i64 8) (by simp [results, Tryz.results51, go_sem]) rfl ?_
  exact lineEnd_err hr.out.symm (by decide) (by rw [hz]; exact hb3.out)
end Conf18
end Go.Proofs.YtcpokkkdmenmgaaGreatDoor
