/- limit: Go and Wait in use; the law's own buckets beside limits. Conditions: rules that may be. -/
import Derived.Test.YtbcicbiphgeghaaDoorQLimitNews1
namespace Go.Proofs.YtbcicbiphgeghaaDoor
open Go.RowKit Go.ChangeShapes Go.WideShapes Go.ChangeAt Go.Deep
namespace Addr05
theorem BksAt.congr {w : World} {R : List Rul} {gs : List Nat} {st st' : Nat → Int × Int} (h : BksAt w R gs st) (he : ∀ (k : Nat), k < gs.length → st k = st' k) : BksAt w R gs st' := by
  intro k g hk
  obtain ⟨r, hr, hb⟩ := h k g hk
  refine ⟨r, hr, ?_⟩
  rw [← he k (List.getElem?_eq_some_iff.1 hk).1]
  exact hb
/-- What buckets have when the time goes on. -/
def gH (ls : List Rul) (H : Nat → Int) (now t : Int) : Nat → Int := fun k => match ls[k]? with | some r => goH r.e r.m (H k) now t | none => H k
theorem goSt_end (ls : List Rul) (H : Nat → Int) (now t : Int) (n k : Nat) (h : k < n) : goSt ls H now t n k = (gH ls H now t k, t) := by
  unfold goSt gH
  rw [if_pos h]
  cases ls[k]? <;> rfl
theorem gH_le {es : List Rul} (hg : Good es) {H : Nat → Int} {now t : Int} (hnt : now ≤ t) (h : ∀ (i : Nat) (r : Rul), es[i]? = some r → 0 ≤ H i ∧ H i ≤ r.m) : ∀ (i : Nat) (r : Rul), es[i]? = some r → 0 ≤ gH es H now t i ∧ gH es H now t i ≤ r.m := by
  intro i r hr
  have h1 := h i r hr
  obtain ⟨-, -, hrr, -⟩ := hg.at hr
  obtain ⟨he0, he, hm0, hm⟩ := (rightR_iff r.e r.m).1 hrr
  have e : gH es H now t i = goH r.e r.m (H i) now t := by unfold gH; rw [hr]
  rw [e]
  unfold goH
  have hp : 0 ≤ (t - now) * r.e := Int.mul_nonneg (by omega) he0
  obtain ⟨P, hP⟩ : ∃ P, (t - now) * r.e = P := ⟨_, rfl⟩
  rw [hP] at hp ⊢
  split <;> omega
section
variable {w w' : World} {base x tg : Nat} {N : Nodes} {M : Keys} {n : Int} {rs bs : Value} {es : List Rul} {gs : List Nat} {R : List Rul} {st st' : Nat → Int × Int} {now t : Int}
theorem LimC.go (h : LimC w base x tg N M n rs bs es gs R st now) (hl : limAt w' x tg rs bs t) (hb : BksAt w' R gs st') (hk : KeptS w.heap.size (goneT x gs) w w') : LimC w' base x tg N M n rs bs es gs R st' t := by
  have hi := h.inB
  have key : ∀ k, k < w.heap.size → k ≠ x → k ∉ gs → w'.heap[k]? = w.heap[k]? := fun k h1 h2 h3 => hk.block k h1 (fun e => e.elim h2 h3)
  refine ⟨hl, h.trie.on fun k hk => key k (hi.node k hk) (h.node k hk).2.1 (h.node k hk).2.2.1, row_on2 h.rules fun k hk => key k (hi.rs k hk) (fun e => h.rsx (e ▸ hk)) (fun e => h.gsr e hk), row_on2 h.row fun k hk => key k (hi.bs k hk) (fun e => h.bsx (e ▸ hk)) (fun e => h.gsb e hk), hb, h.dist, h.hx, h.hgs, h.node⟩
theorem LimC.congr (h : LimC w base x tg N M n rs bs es gs R st now) (he : ∀ (k : Nat), k < gs.length → st k = st' k) : LimC w base x tg N M n rs bs es gs R st' now :=
  ⟨h.lim, h.trie, h.rules, h.row, h.bks.congr he, h.dist, h.hx, h.hgs, h.node⟩
end
theorem lGo_is (w : World) (base x tg : Nat) (N : Nodes) (M : Keys) (n : Int) (rs bs : Value) (es : List Rul) (gs : List Nat) (H : Nat → Int) (now t : Int) (h : LimC w base x tg N M n rs bs es gs es (fun k => (H k, now)) now) (hgl : gs.length = es.length) (hel : es.length ≤ 1099511627776)
    (hg : Good es) (hH : ∀ (i : Nat) (r : Rul), es[i]? = some r → 0 ≤ H i ∧ H i ≤ r.m) (hnow : 0 ≤ now) (hnt : now ≤ t) (ht : t ≤ 1099511627776) :
    Calls Tryd.prog 23 #[.pointer (some ⟨x, 0, none⟩), .int .i64 t] w fun r w' => r = .returned (.int .i64 0) ∧ LimC w' base x tg N M n rs bs es gs es (fun k => (gH es H now t k, t)) t ∧ KeptS w.heap.size (goneT x gs) w w' := by
  obtain ⟨A, c, hbs, -, -, -⟩ := own_isv h.row
  subst hbs
  have hA : ∀ (k g : Nat), gs[k]? = some g → ∃ (q : Nat) (cs : Array Value), A = some ⟨q, 0, none⟩ ∧ w.heap[q]? = some (.cells cs 52 (0, 0)) ∧ cs[k]? = some (.pointer (some ⟨g, 0, none⟩)) ∧ q ∉ gs := by
    intro k g hk
    obtain ⟨q, cap, cs, e, hq, hc⟩ := row_at h.row hk
    cases e
    exact ⟨q, cs, rfl, hq, hc, fun hm => h.gsb hm rfl⟩
  have hR : ∀ (k : Nat) (r : Rul), es[k]? = some r → rightR r.e r.m = true ∧ 0 ≤ H k ∧ H k ≤ r.m := fun k r hr => ⟨(hg.at hr).2.2.1, hH k r hr⟩
  refine (lGo_yes x tg gs.length c A rs now t hnow hnt ht w h.lim es gs H (by omega) rfl hA hR h.dist h.gsx h.bks).mono ?_
  rintro r w' ⟨rfl, h1, h2, h3⟩
  exact ⟨rfl, h.go h1 (h2.congr fun k hk => goSt_end es H now t gs.length k hk) h3, h3⟩
/-- When so many may come. -/
def wtF (es : List Rul) (H : Nat → Int) (now : Int) (U : Option Nat) (k : Int) : Int := if k < 0 then -1 else match U with | none => now | some j => match es[j]? with | some r => waitF r.e r.m (H j) now k | none => now
theorem lWait_is (w : World) (base x tg : Nat) (N : Nodes) (n : Int) (rs bs : Value) (es : List Rul) (gs : List Nat) (H : Nat → Int) (now : Int) (h : LimC w base x tg N (keysOf (putsR es)) n rs bs es gs es (fun k => (H k, now)) now) (hgl : gs.length = es.length) (hel : es.length ≤ 1099511627776)
    (hok : ∀ r ∈ es, r.ok) (hg : Good es) (hH : ∀ (i : Nat) (r : Rul), es[i]? = some r → 0 ≤ H i ∧ H i ≤ r.m) (hn0 : 0 ≤ now) (hnm : now ≤ 1099511627776) (a : Adr) (ha : a.ok) (k : Int) :
    Calls Tryd.prog 28 #[.pointer (some ⟨x, 0, none⟩), .agg #[.bool a.v6, .int .u64 (a.hi : Int), .int .u64 (a.lo : Int)], .int .i64 k] w fun r w' => r = .returned (.int .i64 (wtF es H now (undF es a) k)) ∧ Below w.heap.size w w' := by
  by_cases hk : k < 0
  · have e : wtF es H now (undF es a) k = -1 := by unfold wtF; rw [if_pos hk]
    rw [e]
    exact lWait_neg x tg rs bs now k hk a.v6 (a.hi : Int) (a.lo : Int) w h.lim
  · have hou := of_under es hok hg a ha
    cases hu : undF es a with
    | none =>
      rw [hu] at hou
      have e : wtF es H now none k = now := by unfold wtF; rw [if_neg hk]
      rw [e]
      exact lWait_none x tg rs bs now k (by omega) a ha w N _ n h.lim h.trie hou
    | some j =>
      rw [hu] at hou
      have hjl := undF_lt es a j hu
      obtain ⟨g, hgj⟩ : ∃ g, gs[j]? = some g := ⟨gs[j]'(by omega), List.getElem?_eq_getElem _⟩
      obtain ⟨q, cap, cs, rfl, hq, hcs⟩ := row_at h.row hgj
      obtain ⟨r, hr, hbk⟩ := h.bks j g hgj
      obtain ⟨-, -, hrr, -⟩ := hg.at hr
      obtain ⟨he0, he, hm0, hm⟩ := (rightR_iff r.e r.m).1 hrr
      have hHj := hH j r hr
      have e : wtF es H now (some j) k = waitF r.e r.m (H j) now k := by unfold wtF; rw [if_neg hk]; dsimp only; rw [hr]
      rw [e]
      exact lWait_some x tg q cap j gs.length g rs cs now k r.e r.m (H j) now (by omega) a ha w N _ n h.lim h.trie hou hq hcs (by omega) (by omega) hbk hm0 hHj.1 hHj.2 hm he0 he hn0 hnm
/-- Buckets of the law's own: their row and what they have. -/
structure Bkts (w : World) (base : Nat) (v : Value) (gs : List Nat) (R : List Rul) (st : Nat → Int × Int) : Prop where
  row : OwnBk w base v gs
  bks : BksAt w R gs st
  dist : ∀ (i j g : Nat), gs[i]? = some g → gs[j]? = some g → j = i
  hgs : ∀ g, g ∈ gs → base ≤ g
section
variable {w w' : World} {base : Nat} {v : Value} {gs : List Nat} {R : List Rul} {st st' : Nat → Int × Int}
theorem Bkts.bkt (h : Bkts w base v gs R st) {g : Nat} (hg : g ∈ gs) : ∃ e m a b, bktAt w g e m a b := by
  obtain ⟨k, hk⟩ := List.mem_iff_getElem?.1 hg
  obtain ⟨r, _, hb⟩ := h.bks k g hk
  exact ⟨_, _, _, _, hb⟩
theorem Bkts.notRow (h : Bkts w base v gs R st) {g : Nat} (hg : g ∈ gs) : v.ownBlock ≠ some g := by
  intro e
  obtain ⟨_, _, _, _, hk⟩ := h.bkt hg
  unfold bktAt at hk
  rcases h.row.2 with ⟨h0, _⟩ | ⟨q, cap, cur, h0, _, hh, _⟩
  · rw [h0] at e; cases e
  · rw [h0] at e
    have e2 : q = g := by simpa [Value.ownBlock] using e
    rw [← e2, hh] at hk
    simp at hk
theorem Bkts.on (h : Bkts w base v gs R st) (hb : ∀ k, k < w.heap.size → base ≤ k → w'.heap[k]? = w.heap[k]?) : Bkts w' base v gs R st := by
  refine ⟨row_on2 h.row fun k hk => hb k (h.row.lt k hk).2 (h.row.lt k hk).1, fun k g hk => ?_, h.dist, h.hgs⟩
  obtain ⟨r, hr, hbk⟩ := h.bks k g hk
  refine ⟨r, hr, ?_⟩
  unfold bktAt at hbk ⊢
  rw [hb g (lt_of_blk hbk) (h.hgs g (List.mem_of_getElem? hk))]
  exact hbk
theorem Bkts.below (h : Bkts w base v gs R st) (hb : Below w.heap.size w w') : Bkts w' base v gs R st := h.on fun k hk _ => hb.block k hk
theorem Bkts.kept {P : Nat → Prop} (h : Bkts w base v gs R st) (hk : KeptS w.heap.size P w w') (hP : ∀ k, P k → k < base) : Bkts w' base v gs R st := h.on fun k h1 h2 => hk.block k h1 (fun hp => by have := hP k hp; omega)
theorem Bkts.congr (h : Bkts w base v gs R st) (he : ∀ (k : Nat), k < gs.length → st k = st' k) : Bkts w base v gs R st' := ⟨h.row, h.bks.congr he, h.dist, h.hgs⟩
theorem Bkts.turn (h : Bkts w base v gs R st) {j g : Nat} (hj : gs[j]? = some g) (hg : w.grownBy w' (some g)) {r : Rul} (hr : R[j]? = some r) {y : Int × Int} (hb : bktAt w' g r.e r.m y.1 y.2) :
    Bkts w' base v gs R (fun k => if k = j then y else st k) :=
  ⟨row_on2 h.row fun k hk => hg.block k (h.row.lt k hk).2 (fun e => by cases e; exact h.notRow (List.mem_of_getElem? hj) hk), h.bks.step hj (fun i hi' => h.dist j i g hj hi') hg hr hb, h.dist, h.hgs⟩
theorem Bkts.more (h : Bkts w base v gs R st) {v' : Value} {g : Nat} (ho : OwnBk w' base v' (gs ++ [g])) (hg : Grew w v w' v') {r : Rul} (hr : R[gs.length]? = some r) (hb : bktAt w g r.e r.m (st gs.length).1 (st gs.length).2) (hgg : base ≤ g) (hgn : g ∉ gs) : Bkts w' base v' (gs ++ [g]) R st := by
  have key : ∀ q e m a b, bktAt w q e m a b → w'.heap[q]? = w.heap[q]? := by
    intro q e m a b hq
    refine hg.grown.block q (lt_of_blk hq) (fun e1 => ?_)
    unfold bktAt at hq
    rcases h.row.2 with ⟨h0, _⟩ | ⟨q2, cap, cur, h0, _, hh, _⟩
    · rw [h0] at e1; cases e1
    · rw [h0] at e1
      have e2 : q2 = q := by simpa [Value.ownBlock] using e1.symm
      rw [← e2, hh] at hq
      simp at hq
  refine ⟨ho, ?_, ?_, ?_⟩
  · intro k q hk
    rcases Nat.lt_or_ge k gs.length with hlt | hge
    · rw [List.getElem?_append_left hlt] at hk
      obtain ⟨r', hr', hb'⟩ := h.bks k q hk
      have hb2 := hb'
      refine ⟨r', hr', ?_⟩
      unfold bktAt at hb' ⊢
      rw [key q _ _ _ _ hb2]
      exact hb'
    · rw [List.getElem?_append_right hge] at hk
      have hk0 : k = gs.length := by
        rcases Nat.eq_zero_or_pos (k - gs.length) with h0 | h0
        · omega
        · rw [List.getElem?_eq_none (by simp; omega)] at hk
          cases hk
      subst hk0
      rw [Nat.sub_self] at hk
      obtain rfl : g = q := by simpa using hk
      have hb2 := hb
      refine ⟨r, hr, ?_⟩
      unfold bktAt at hb ⊢
      rw [key g _ _ _ _ hb2]
      exact hb
  · intro i j q hi hj
    have key : ∀ k, (gs ++ [g])[k]? = some q → (k < gs.length ∧ gs[k]? = some q) ∨ (k = gs.length ∧ q = g) := by
      intro k hk
      rcases Nat.lt_or_ge k gs.length with hlt | hge
      · rw [List.getElem?_append_left hlt] at hk
        exact .inl ⟨hlt, hk⟩
      · right
        rw [List.getElem?_append_right hge] at hk
        rcases Nat.eq_zero_or_pos (k - gs.length) with h0 | h0
        · rw [h0] at hk
          exact ⟨by omega, by simpa using hk.symm⟩
        · rw [List.getElem?_eq_none (by simp; omega)] at hk
          cases hk
    rcases key i hi with ⟨_, h1⟩ | ⟨h1, h2⟩
    · rcases key j hj with ⟨_, h3⟩ | ⟨h3, h4⟩
      · exact h.dist i j q h1 h3
      · exact absurd (h4 ▸ List.mem_of_getElem? h1) hgn
    · rcases key j hj with ⟨_, h3⟩ | ⟨h3, h4⟩
      · exact absurd (h2 ▸ List.mem_of_getElem? h3) hgn
      · omega
  · intro q hq
    rcases List.mem_append.1 hq with hq | hq
    · exact h.hgs q hq
    · obtain rfl := List.mem_singleton.1 hq
      exact hgg
end
end Addr05
end Go.Proofs.YtbcicbiphgeghaaDoor
/- The walk of LimitPlays: it answers true. Condition: the cell of bytealg.MaxLen. -/
namespace Go.Proofs.YtbcicbiphgeghaaDoor
open Go.RowKit Go.ChangeShapes Go.WideShapes Go.ChangeAt Go.Deep
namespace Addr05
/-- Bad rules are told by an error that is not 0. -/
theorem bad_le (es : List Rul) (i : Nat) (r : Rul) : 0 ≤ badC es i r := by
  unfold badC
  split
  · omega
  split
  · omega
  split
  · omega
  split <;> omega
theorem NewEnd.two {es : List Rul} {w w' : World} {e : Ending} (h : NewEnd es w w' e) : Below w.heap.size w w' ∧
    ((∃ X6 c, e = .returned (.tuple #[.pointer none, X6, .int .i64 c]) ∧ c ≠ 0) ∨
     (Good es ∧ ∃ x tg N rs bs gs, e = .returned (.tuple #[.pointer (some ⟨x, 0, none⟩), .int .i64 0, .int .i64 0]) ∧ LimC w' w.heap.size x tg N (keysOf (putsR es)) (es.length : Int) rs bs es gs es (fun k => (HF es k, 0)) 0 ∧ gs.length = es.length)) := by
  obtain ⟨hb, h | h⟩ := h
  · obtain ⟨i, r, hr, hne, hall, rfl⟩ := h
    exact ⟨hb, .inl ⟨_, _, rfl, hne⟩⟩
  · obtain ⟨hg, x, tg, N, rs, bs, gs, rfl, hL, hgl⟩ := h
    exact ⟨hb, .inr ⟨hg, x, tg, N, rs, bs, gs, rfl, hL, hgl⟩⟩
theorem alloc_lop (o : Oper) (h : o.op = .alloc 56) (ρ : Operand → Value) (w : World) : (execOp ρ o).run Tryd.prog w = .ok (.value (.pointer (some ⟨w.heap.size, 0, none⟩))) (w.alloc (.cells #[.int .i64 0, .bool false, .int .u64 0, .int .u64 0, .int .i64 0] 56)) := by
  obtain ⟨d, op, t, ps, af, g⟩ := o
  dsimp only at h
  subst h
  kernel_rfl
theorem lop_one (k : Int) (v6 : Bool) (hi lo n : Int) : (#[.int .i64 k, .bool v6, .int .u64 hi, .int .u64 lo, .int .i64 n] : Array Value).all (·.oneCell') = true := all_oneCell_toArray (by
  intro v hv
  simp only [List.mem_cons, List.not_mem_nil, or_false] at hv
  rcases hv with rfl | rfl | rfl | rfl | rfl <;> rfl)
theorem opC_len (o : LOp) : (opC o).length = 5 := rfl
/-- A call's cells. -/
def OpAt (w : World) (z : Nat) (o : LOp) : Prop := w.heap[z]? = some (.cells #[.int .i64 o.k, .bool o.a.v6, .int .u64 (o.a.hi : Int), .int .u64 (o.a.lo : Int), .int .i64 o.n] 56 (0, 0))
/-- Limits and the law's own buckets, which have the same. -/
structure PlayAt (B2 B3 x tg : Nat) (w2 : World) (N : Nodes) (rs bs v : Value) (ls : List Rul) (gs gs2 : List Nat) (now : Int) (H : Nat → Int) (wx : World) : Prop where
  lo : 0 ≤ now
  hi : now ≤ 1099511627776
  bel : Below B2 w2 wx
  size : B3 ≤ wx.heap.size
  lim : LimC wx B2 x tg N (keysOf (putsR ls)) (ls.length : Int) rs bs ls gs ls (fun k => (H k, now)) now
  bk : Bkts wx B3 v gs2 ls (fun k => (H k, now))
  le : ∀ (i : Nat) (r : Rul), ls[i]? = some r → 0 ≤ H i ∧ H i ≤ r.m
theorem PlayAt.below {B2 B3 x tg : Nat} {w2 : World} {N : Nodes} {rs bs v : Value} {ls : List Rul} {gs gs2 : List Nat} {now : Int} {H : Nat → Int} {wx wy : World} (h : PlayAt B2 B3 x tg w2 N rs bs v ls gs gs2 now H wx) (hb : Below wx.heap.size wx wy) (hB : B2 ≤ B3) : PlayAt B2 B3 x tg w2 N rs bs v ls gs gs2 now H wy :=
  ⟨h.lo, h.hi, h.bel.trans (hb.mono (Nat.le_trans hB h.size)), Nat.le_trans h.size hb.size, h.lim.below hb, h.bk.below hb, h.le⟩
set_option maxRecDepth 20000 in
set_option maxHeartbeats 8000000 in
theorem lplays_walk (A : Option Addr) (n c : Nat) (es : List Rul) (A1 : Option Addr) (n1 c1 : Nat) (os : List LOp) (a : Adr) (ha : a.ok) (k1 : Int) (w : World) (hx : IsT rulC 6 w w.heap.size A n es) (hok : ∀ r ∈ es, r.ok) (hnc : n ≤ c) (hcm : c ≤ maxLen) (hs : IsT opC 5 w w.heap.size A1 n1 os) (hoo : ∀ o ∈ os, o.ok) (hnc1 : n1 ≤ c1) (hcm1 : c1 ≤ maxLen) (hm : MaxAt w) :
    Calls Tryd.prog 5 #[.slice A n c, .slice A1 n1 c1, .agg #[.bool a.v6, .int .u64 (a.hi : Int), .int .u64 (a.lo : Int)], .int .i64 k1] w fun e w' => e = .returned (.bool true) ∧ Below w.heap.size w w' := by
  have hA := fun w => lawake_any w
  obtain ⟨w1, hw1⟩ : ∃ w1, w.alloc (.cells #[.bool a.v6, .int .u64 (a.hi : Int), .int .u64 (a.lo : Int)] 26) = w1 := ⟨_, rfl⟩
  have hB1 : Below w.heap.size w w1 := hw1 ▸ (Below.refl _ _).alloc (Nat.le_refl _) _
  have hg1 : w1.heap[w.heap.size]? = some (.cells #[.bool a.v6, .int .u64 (a.hi : Int), .int .u64 (a.lo : Int)] 26 (0, 0)) := hw1 ▸ blk_new _ _ _
  have hz1 : w.heap.size < w1.heap.size := by rw [← hw1]; simp
  have hx1 := hx.on hB1
  have hs1 := hs.on hB1
  have hlo := hs.1
  have hm1 := hm.below hB1
  have qf := few_any n c A es w1 hx1 hnc hcm
  clear hx hm hs
  replace hA := hide hA
  replace hB1 := hide hB1
  replace hg1 := hide hg1
  replace hx1 := hide hx1
  replace hs1 := hide hs1
  replace hm1 := hide hm1
  replace qf := hide qf
  replace hok := hide hok
  replace hoo := hide hoo
  go_enter Tryd.func5, Tryd.ntmps5
  go_upto_region 1 with fail
  clear hw1
  go_wp2_with fail
  refine qf.out.mono ?_
  rintro e w2 ⟨⟨A', m, rfl, hx2, hm20, hmc⟩, rfl⟩
  have hok2 : ∀ r ∈ es.take 20, r.ok := fun r hr => hok.out r (List.mem_of_mem_take hr)
  obtain ⟨ls, hls⟩ : ∃ l, es.take 20 = l := ⟨_, rfl⟩
  rw [hls] at hx2 hok2
  have hN := lNew_any m c A' ls hok2 w2 hx2 (by omega)
  clear qf hx1 hok hls
  replace hx2 := hide hx2
  replace hok2 := hide hok2
  replace hN := hide hN
  go_wp2_with fail
  refine hN.out.mono ?_
  rintro e w3 hE
  obtain ⟨hb3, hE⟩ := hE.two
  have hz3 := hb3.size
  have hlen := hx2.out.1
  clear hN
  rcases hE with ⟨X6, cc, rfl, hcc⟩ | ⟨hG, x, tg, N, rs, bs, gs, rfl, hL, hgl⟩
  · have p := hA.out w3 (hm1.out.below hb3)
    have hB3 := hB1.out.trans (hb3.mono hB1.out.size)
    clear hx2 hs1 hg1 hB1 hb3
    replace hB3 := hide hB3
    replace p := hide p
    go_wp2_with fail
    refine p.out.mono ?_
    rintro e w4 ⟨rfl, hb4⟩
    have hB4 := hB3.out.trans (hb4.mono hB3.out.size)
    clear hb4
    replace hB4 := hide hB4
    go_wp2_with fail
    go_ret
    exact ⟨rfl, hB4.out⟩
  · have hin := hL.inB
    have hHF := HF_le hG
    replace hb3 := hide hb3
    replace hL := hide hL
    replace hin := hide hin
    replace hG := hide hG
    replace hHF := hide hHF
    go_upto_region 6 with fail
    go_wp2_with fail
    go_loopw [12, 13, 14, 15] (fun v iv _ _ wr => ∃ (i : Nat) (gs2 : List Nat), i ≤ m ∧ iv = .int .i64 (i : Int) ∧ gs2.length = i ∧ Below w3.heap.size w3 wr ∧ Bkts wr w3.heap.size v gs2 ls (fun k => (HF ls k, 0))) (fun _ iv _ _ _ => m - (intOf iv).toNat)
    case atStart => exact ⟨0, [], by omega, rfl, rfl, Below.refl _ _, OwnR.nil _ _, fun k g h => by simp at h, fun i j g h => by simp at h, fun g h => by simp at h⟩
    case round =>
      obtain ⟨i, gs2, hi, rfl, hgl2, hbr, hK⟩ := hrel
      by_cases him : i < m
      · have hlt : (i : Int) < (m : Int) := by omega
        have hzr := hbr.size
        obtain ⟨bk, off, r, rfl, hbk, hri, hcell⟩ := ((hx2.out.on hb3.out).below hbr).at rulC_len (by omega) him
        have c4' : wr.cell? ⟨bk, off + i * 6 + 4, none⟩ = some (.int .i64 r.e) := hcell 4 _ rfl
        have c5' : wr.cell? ⟨bk, off + i * 6 + 5, none⟩ = some (.int .i64 r.m) := hcell 5 _ rfl
        have hrr := (hG.out.at hri).2.2.1
        have qn := rNew_ok r.e r.m wr hrr
        obtain ⟨A3, c3, hv, -, -, -⟩ := own_isv hK.row
        rw [hgl2] at hv
        subst hv
        have hH : (HF ls i, (0 : Int)) = (r.m, 0) := by unfold HF; rw [hri]; rfl
        clear hcell
        replace hbr := hide hbr
        replace hK := hide hK
        replace hri := hide hri
        replace qn := hide qn
        replace hH := hide hH
        go_wp2_with fail
        refine qn.out.mono ?_
        rintro e w5 ⟨g, rfl, hb5, hk5, hg5, hgs5⟩
        have hK5 := hK.out.below hb5
        have hB5 := hbr.out.trans (hb5.mono hzr)
        have hgn : g ∉ gs2 := fun hmm => by
          obtain ⟨_, _, _, _, hq⟩ := hK.out.bkt hmm
          have := lt_of_blk hq
          omega
        clear c4' c5' qn hb5 hK hbr
        replace hK5 := hide hK5
        replace hB5 := hide hB5
        replace hk5 := hide hk5
        replace hgn := hide hgn
        go_upto_region 12 with fail
        apply wp_region_lit
        iterate 3 (refine wpList_plain rfl fun K hK => ?_; go_simp; refine hK _ _ ?_; clear hK K)
        refine wpl_lit_r (e := 52) (f := ptrV) Tryd.underlying45 info_bkp rfl (by omega) (fun _ => rfl) rfl (.tmp 58) (.tmp 60) rfl w3.heap.size _ gs2 [g] 1 1 rfl rfl rfl rfl hK5.out.row hB5.out.size (by omega) fun v13 w13 h3 h4 => ?_
        have hK6 := hK5.out.more h3 h4 (r := r) (by rw [hgl2]; exact hri.out) (by rw [hgl2, hH.out]; exact hk5.out) (by omega) hgn.out
        have hB6 := hB5.out.trans (below_of_grown h4.grown hB5.out.size fun k hk => (hK5.out.row.lt k hk).1)
        have hgl3 : (gs2 ++ [g]).length = i + 1 := by simp [hgl2]
        clear h3 h4 hK5 hB5 hk5
        replace hK6 := hide hK6
        replace hB6 := hide hB6
        replace hgl3 := hide hgl3
        iterate 1 (refine wpList_plain rfl fun K hK => ?_; go_simp; refine hK _ _ ?_; clear hK K)
        refine wpList_nil ?_
        go_simp
        go_wp2_with fail
        exact ⟨⟨i + 1, gs2 ++ [g], by omega, by first | rfl | go_num, hgl3.out, hB6.out, hK6.out⟩, by simp only [intOf]; omega⟩
      · obtain rfl : i = m := by omega
        have hlt : ((i : Int) < (i : Int)) = False := by simp
        obtain ⟨Av, cv, hv, -, -, -⟩ := own_isv hK.row
        rw [hgl2] at hv
        subst hv
        have hP : PlayAt w2.heap.size w3.heap.size x tg w2 N rs bs (.slice Av i cv) ls gs gs2 0 (HF ls) wr := ⟨by omega, by omega, hb3.out.trans (hbr.mono hz3), hbr.size, hL.out.below hbr, hK, hHF.out⟩
        have hgs2 := hK.hgs
        clear hbr hK hL hHF
        replace hP := hide hP
        replace hgs2 := hide hgs2
        have hokp : ∀ r ∈ ls, r.p.ok := fun r hr => (hok2.out r hr).1
        replace hokp := hide hokp
        go_upto_block 2 with fail
        go_cut [16, 17, 18, 19, 20, 21, 22] from 62 to 135 (fun nv _ _ _ _ _ _ wx => ∃ (now : Int) (H : Nat → Int), nv = .int .i64 now ∧ PlayAt w2.heap.size w3.heap.size x tg w2 N rs bs (.slice Av i cv) ls gs gs2 now H wx)
        case first =>
          go_upto_block 3 with fail
          go_loopw [16, 17, 18, 19, 20, 21, 22] (fun nv iv _ _ _ _ _ wr => ∃ (k : Nat) (now : Int) (H : Nat → Int), k ≤ n1 ∧ iv = .int .i64 (k : Int) ∧ nv = .int .i64 now ∧ PlayAt w2.heap.size w3.heap.size x tg w2 N rs bs (.slice Av i cv) ls gs gs2 now H wr) (fun _ iv _ _ _ _ _ _ => n1 - (intOf iv).toNat)
          case atStart => exact ⟨0, 0, HF ls, by omega, rfl, rfl, hP.out⟩
          case round =>
            obtain ⟨k, now, H, hk, rfl, rfl, hQ⟩ := hrel
            by_cases hk1 : k < n1
            · have hklt : (k : Int) < (n1 : Int) := by omega
              by_cases hk60 : k < 60
              · have hk60' : (k : Int) < 60 := by omega
                have hzr := hQ.size
                have hbelz := hQ.bel.size
                obtain ⟨bo, oo, o, rfl, hbo, hro, hcell⟩ := (hs1.out.below hQ.bel).at opC_len (by omega) hk1
                obtain ⟨⟨h61, h62⟩, ⟨h63, h64⟩, ⟨h65, h66⟩⟩ := hoo.out o (List.mem_of_getElem? hro)
                have c0 : wr.cell? ⟨bo, oo + k * 5, none⟩ = some (.int .i64 o.k) := hcell 0 _ rfl
                have c1' : wr.cell? ⟨bo, oo + k * 5 + 1, none⟩ = some (.bool o.a.v6) := hcell 1 _ rfl
                have c2' : wr.cell? ⟨bo, oo + k * 5 + 2, none⟩ = some (.int .u64 (o.a.hi : Int)) := hcell 2 _ rfl
                have c3' : wr.cell? ⟨bo, oo + k * 5 + 3, none⟩ = some (.int .u64 (o.a.lo : Int)) := hcell 3 _ rfl
                have c4' : wr.cell? ⟨bo, oo + k * 5 + 4, none⟩ = some (.int .i64 o.n) := hcell 4 _ rfl
                have hzx : wr.heap.size ≠ x := fun e => by have := hin.out.x; omega
                have hzg : wr.heap.size ∉ gs := fun e => by have := hin.out.gs _ e; omega
                have hzg2 : wr.heap.size ∉ gs2 := fun e => by
                  obtain ⟨_, _, _, _, hq⟩ := hQ.bk.bkt e
                  have := lt_of_blk hq
                  omega
                clear hcell hro
                replace hQ := hide hQ
                replace hzx := hide hzx
                replace hzg := hide hzg
                replace hzg2 := hide hzg2
                go_upto_region 17 with fail
                apply wp_region_lit
                iterate 4 (refine wpList_plain rfl fun K hK => ?_; go_simp; refine hK _ _ ?_; clear hK K)
                refine wpl_new rfl rfl 56 _ (alloc_lop _ rfl) 18 rfl (.tmp 75) rfl _ (fun _ => rfl) (fun _ => rfl) rfl (by kernel_rfl) (lop_one o.k o.a.v6 (o.a.hi : Int) (o.a.lo : Int) o.n) ?_
                intro w5 hg5 hb5 hz5
                refine wpList_nil ?_
                go_simp
                have hQ5 := hQ.out.below hb5 hz3
                have hz35 := Nat.le_trans hzr hb5.size
                obtain ⟨z, hze⟩ : ∃ z, wr.heap.size = z := ⟨_, rfl⟩
                rw [hze] at hg5 hz5 hzx hzg hzg2 ⊢
                clear hze
                have hcg := blk_cell hg5
                replace hg5 : OpAt w5 z o := hg5
                clear c0 c1' c2' c3' c4' hb5 hQ
                replace hQ5 := hide hQ5
                replace hg5 := hide hg5
                by_cases h3 : o.k = 3
                · by_cases hN1 : now ≤ o.n
                  · by_cases hN2 : o.n ≤ 1099511627776
                    · go_upto_block 4 with fail
                      go_cut [20] from 90 to 102 (fun _ wx => Below w3.heap.size w5 wx ∧ Bkts wx w3.heap.size (.slice Av i cv) gs2 ls (fun k => (gH ls H now o.n k, o.n)) ∧ OpAt wx z o)
                      case first =>
                        go_upto_block 5 with fail
                        go_loopw [20] (fun iv wr => ∃ q : Nat, q ≤ i ∧ iv = .int .i64 (q : Int) ∧ Below w3.heap.size w5 wr ∧ Bkts wr w3.heap.size (.slice Av i cv) gs2 ls (goSt ls H now o.n q) ∧ OpAt wr z o) (fun iv _ => i - (intOf iv).toNat)
                        case atStart =>
                          refine ⟨0, by omega, rfl, Below.refl _ _, ?_, hg5.out⟩
                          have e : goSt ls H now o.n 0 = fun k => (H k, now) := funext fun k => goSt_zero ls H now o.n k
                          rw [e]
                          exact hQ5.out.bk
                        case round =>
                          obtain ⟨q, hq, rfl, hbq, hKq, hzq⟩ := hrel
                          have hz5q := hbq.size
                          by_cases hqi : q < i
                          · have hqlt : (q : Int) < (i : Int) := by omega
                            obtain ⟨g, hgq⟩ : ∃ g, gs2[q]? = some g := ⟨gs2[q]'(by omega), List.getElem?_eq_getElem _⟩
                            have hgm := List.mem_of_getElem? hgq
                            obtain ⟨q2, cap, cs, hAv, hq2, hcs⟩ := row_at hKq.row hgq
                            cases hAv
                            obtain ⟨r, hr, hbk⟩ := hKq.bks q g hgq
                            have hrr := (hG.out.at hr).2.2.1
                            have hHq := hQ5.out.le q r hr
                            have est : goSt ls H now o.n q q = (H q, now) := by unfold goSt; rw [if_neg (by omega)]
                            rw [est] at hbk
                            have hgz : z ≠ g := fun e => hzg2.out (e ▸ hgm)
                            have hqg : q2 ≠ g := fun e => hKq.notRow hgm (by rw [← e]; rfl)
                            have hgB := hKq.hgs g hgm
                            have hlo := hQ5.out.lo
                            have hgzz := hzq
                            unfold OpAt at hgzz
                            replace hbq := hide hbq
                            replace hKq := hide hKq
                            replace hzq := hide hzq
                            replace hgq := hide hgq
                            replace hr := hide hr
                            replace hbk := hide hbk
                            go_upto_region 26 with fail
                            refine wp_region_W [6] wr.heap.size (fun j => j = g) (by as_aux_lemma => kernel_rfl) ?_
                            intro wd hbd
                            have hzd := hbd.size
                            have hbkd := blk_below hbd (lt_of_blk hbk.out) hbk.out
                            have hq2d := blk_below hbd (lt_of_blk hq2) hq2
                            have hgzd := blk_below hbd (lt_of_blk hgzz) hgzz
                            have lq := fun l : KeptSW wr.heap.size (fun j => j = g) wd => (blk_cell (l.blk hq2d (lt_of_blk hq2) hqg) q).trans hcs
                            have lz := fun l : KeptSW wr.heap.size (fun j => j = g) wd => blk_cell (l.blk hgzd (lt_of_blk hgzz) hgz)
                            refine wpWS_seg [6] wr.heap.size (fun j => j = g) 0 6 (fuel := 1) (by as_aux_lemma => kernel_rfl) (fun d _ _ _ _ h => by cases d <;> exact h) (by as_aux_lemma => kernel_rfl) (by as_aux_lemma => kernel_rfl) ?_
                            simp only [List.drop_zero, List.take_succ_cons, List.take_zero]
                            iterate 6 (refine wpQS_step (fun K hK => ?_); go_simp; refine hK _ ?_; clear hK K)
                            refine wpQF_nil ?_
                            clear lq lz
                            have hcall := bGo_any g r.e r.m (H q) now o.n wd hbkd hrr hHq.1 hHq.2 hlo hN1 hN2
                            have hKd := hKq.out.below hbd
                            have hBd := hbq.out.trans (hbd.mono (by omega))
                            clear hq2 hq2d hbkd hgzz hcs hbk hKq hbq
                            replace hcall := hide hcall
                            replace hKd := hide hKd
                            replace hBd := hide hBd
                            replace hgzd := hide hgzd
                            refine wpW_step 6 rfl (by as_aux_lemma => kernel_rfl) (fun K hK => ?_)
                            go_simp
                            go_at_call 22
                            refine hcall.out.mono ?_
                            rintro e' w9 ⟨rfl, hg9, hk9⟩
                            refine hK _ _ (relS_of rfl ⟨hg9.os, hg9.tape, hg9.output, hg9.size, fun j hj hne => hg9.block j (by omega) (fun e => hne (by cases e; rfl))⟩) ?_
                            clear hK K
                            refine wpW_done (by as_aux_lemma => kernel_rfl) ?_ _
                            have hK9 := hKd.out.turn hgq.out hg9 hr.out (y := (goH r.e r.m (H q) now o.n, o.n)) hk9
                            have e9 : (fun k => if k = q then (goH r.e r.m (H q) now o.n, o.n) else goSt ls H now o.n q k) = goSt ls H now o.n (q + 1) := funext fun k => goSt_succ ls H now o.n q hr.out k
                            rw [e9] at hK9
                            have hB9 := hBd.out.trans (below_grown hg9 (by omega) hgB)
                            have hz9 : OpAt w9 z o := (hg9.block z (lt_of_blk hgzd.out) (fun e => hgz (by cases e; rfl))).trans hgzd.out
                            clear hg9 hk9 hKd hBd hgzd hcall e9
                            replace hK9 := hide hK9
                            replace hB9 := hide hB9
                            replace hz9 := hide hz9
                            go_wp2_with fail
                            exact ⟨⟨q + 1, by omega, by first | rfl | go_num, hB9.out, hK9.out, hz9.out⟩, by simp only [intOf]; omega⟩
                          · obtain rfl : q = i := by omega
                            have hlt2 : ((q : Int) < (q : Int)) = False := by simp
                            have hKe := hKq.congr (st' := fun k => (gH ls H now o.n k, o.n)) fun k hk => goSt_end ls H now o.n q k (by omega)
                            replace hbq := hide hbq
                            replace hKe := hide hKe
                            replace hzq := hide hzq
                            go_wp2_with fail
                            go_meet
                            exact ⟨hbq.out, hKe.out, hzq.out⟩
                      case rest =>
                        obtain ⟨hBc, hKc, hzc⟩ := hcut
                        have hz5c := hBc.size
                        have hLc := hQ5.out.lim.onB hin.out hBc
                        have hgc := hzc
                        unfold OpAt at hgc
                        have hBel := hQ5.out.bel.trans (hBc.mono hz3)
                        have hgo := lGo_is wc _ x tg N _ _ rs bs ls gs H now o.n hLc hgl (by omega) hG.out hQ5.out.le hQ5.out.lo hN1 hN2
                        have hle := gH_le (now := now) (t := o.n) hG.out hN1 hQ5.out.le
                        have hcg := blk_cell hgc
                        have hlo := hQ5.out.lo
                        have hszc : w3.heap.size ≤ wc.heap.size := by omega
                        clear hgc hg5 hzc hBc hLc hQ5
                        replace hKc := hide hKc
                        replace hBel := hide hBel
                        replace hgo := hide hgo
                        replace hle := hide hle
                        go_wp2_with fail
                        refine hgo.out.mono ?_
                        rintro e w9 ⟨rfl, hL9, hk9⟩
                        have hK9 := hKc.out.kept hk9 (fun j hj => by
                          rcases hj with h | h
                          · have := hin.out.x; omega
                          · exact hin.out.gs j h)
                        have hB9 := hBel.out.trans (below_kept hk9 (by omega) (fun j hj => by
                          rcases hj with h | h
                          · have := hL9.hx; omega
                          · exact hL9.hgs j h))
                        have hP9 : PlayAt w2.heap.size w3.heap.size x tg w2 N rs bs (.slice Av i cv) ls gs gs2 o.n (gH ls H now o.n) w9 := ⟨by omega, hN2, hB9, Nat.le_trans hszc hk9.size, hL9, hK9, hle.out⟩
                        clear hcg hgo hK9 hB9 hL9 hk9 hKc hBel
                        replace hP9 := hide hP9
                        go_wp2_with fail
                        exact ⟨⟨k + 1, o.n, gH ls H now o.n, by omega, by first | rfl | go_num, rfl, hP9.out⟩, by simp only [intOf]; omega⟩
                    · have hN2' : ¬ o.n ≤ 1099511627776 := hN2
                      have hgo := lGo_no x tg rs bs now o.n (by omega) w5 hQ5.out.lim.lim
                      replace hgo := hide hgo
                      go_wp2_with fail
                      refine hgo.out.mono ?_
                      rintro e w9 ⟨rfl, rfl⟩
                      clear hcg hgo
                      go_wp2_with fail
                      exact ⟨⟨k + 1, now, H, by omega, by first | rfl | go_num, rfl, hQ5.out⟩, by simp only [intOf]; omega⟩
                  · have hN1' : ¬ now ≤ o.n := hN1
                    have hgo := lGo_no x tg rs bs now o.n (by omega) w5 hQ5.out.lim.lim
                    replace hgo := hide hgo
                    go_wp2_with fail
                    refine hgo.out.mono ?_
                    rintro e w9 ⟨rfl, rfl⟩
                    clear hcg hgo
                    go_wp2_with fail
                    exact ⟨⟨k + 1, now, H, by omega, by first | rfl | go_num, rfl, hQ5.out⟩, by simp only [intOf]; omega⟩
                · have hu := under_any i c A' ls hokp.out o.a ⟨h61, h62⟩ w5 (hx2.out.on hQ5.out.bel) (by omega)
                  rw [underL_eq] at hu
                  obtain ⟨U, hU⟩ : ∃ U, undF ls o.a = U := ⟨_, rfl⟩
                  rw [hU] at hu
                  replace hu := hide hu
                  replace hU := hide hU
                  go_wp2_with fail
                  refine hu.out.mono ?_
                  rintro e w6 ⟨rfl, hb6⟩
                  have hQ6 := hQ5.out.below hb6 hz3
                  have hg6 : OpAt w6 z o := blk_below hb6 hz5 hg5.out
                  have hz6 := Nat.lt_of_lt_of_le hz5 hb6.size
                  clear hcg hu hQ5 hg5 hb6
                  by_cases hN0 : 0 ≤ o.n
                  · cases U with
                    | none =>
                      dsimp only [uL]
                      have hcg := blk_cell hg6
                      have htk := lTake_is w6 _ x tg N _ rs bs ls gs H now hQ6.lim hgl (by omega) hok2.out hG.out hQ6.le o.a ⟨h61, h62⟩ o.n
                      rw [hU.out, show tkB H none o.n = true from decide_eq_true hN0] at htk
                      replace htk := hide htk
                      replace hQ6 := hide hQ6
                      replace hg6 := hide hg6
                      go_wp2_with fail
                      refine htk.out.mono ?_
                      rintro e w9 ⟨rfl, hL9, hk9⟩
                      have hP9 : PlayAt w2.heap.size w3.heap.size x tg w2 N rs bs (.slice Av i cv) ls gs gs2 now H w9 := ⟨hQ6.out.lo, hQ6.out.hi, hQ6.out.bel.trans (below_kept hk9 (Nat.le_trans hz3 hQ6.out.size) (fun j hj => hL9.hgs j hj)), Nat.le_trans hQ6.out.size hk9.size, hL9, hQ6.out.bk.kept hk9 (fun j hj => hin.out.gs j hj), hQ6.out.le⟩
                      clear hcg htk hQ6 hg6 hL9 hk9
                      replace hP9 := hide hP9
                      go_wp2_with fail
                      exact ⟨⟨k + 1, now, H, by omega, by first | rfl | go_num, rfl, hP9.out⟩, by simp only [intOf]; omega⟩
                    | some j =>
                      have hjl := undF_lt ls o.a j hU.out
                      have i9 : (0 : Int) ≤ (j : Int) := by omega
                      have i9b : (j : Int) < (i : Int) := by omega
                      have i9c : j < i := by omega
                      dsimp only [uL]
                      obtain ⟨g, hgq⟩ : ∃ g, gs2[j]? = some g := ⟨gs2[j]'(by omega), List.getElem?_eq_getElem _⟩
                      have hgm := List.mem_of_getElem? hgq
                      obtain ⟨q2, cap, cs, hAv, hq2, hcs⟩ := row_at hQ6.bk.row hgq
                      cases hAv
                      obtain ⟨r, hr, hbk⟩ := hQ6.bk.bks j g hgq
                      have hrr := (hG.out.at hr).2.2.1
                      obtain ⟨he0, he, hm0, hmm⟩ := (rightR_iff r.e r.m).1 hrr
                      have hHq := hQ6.le j r hr
                      have hgz : z ≠ g := fun e => hzg2.out (e ▸ hgm)
                      have hqg : q2 ≠ g := fun e => hQ6.bk.notRow hgm (by rw [← e]; rfl)
                      have hgB := hQ6.bk.hgs g hgm
                      have hcg := blk_cell hg6
                      replace hQ6 := hide hQ6
                      replace hgq := hide hgq
                      replace hr := hide hr
                      replace hbk := hide hbk
                      go_upto_region 32 with fail
                      clear hcg
                      refine wp_region_W [6] w6.heap.size (fun q => q = g) (by as_aux_lemma => kernel_rfl) ?_
                      intro wd hbd
                      have hzd := hbd.size
                      have hbkd := blk_below hbd (lt_of_blk hbk.out) hbk.out
                      have hq2d := blk_below hbd (lt_of_blk hq2) hq2
                      have hgzd : OpAt wd z o := blk_below hbd (lt_of_blk hg6) hg6
                      have lq := fun l : KeptSW w6.heap.size (fun q => q = g) wd => (blk_cell (l.blk hq2d (lt_of_blk hq2) hqg) j).trans hcs
                      have lz := fun l : KeptSW w6.heap.size (fun q => q = g) wd => blk_cell (l.blk hgzd (lt_of_blk hg6) hgz)
                      refine wpWS_seg [6] w6.heap.size (fun q => q = g) 0 6 (fuel := 2) (by as_aux_lemma => kernel_rfl) (fun d _ _ _ _ h => by cases d <;> exact h) (by as_aux_lemma => kernel_rfl) (by as_aux_lemma => kernel_rfl) ?_
                      simp only [List.drop_zero, List.take_succ_cons, List.take_zero]
                      iterate 6 (refine wpQS_step (fun K hK => ?_); go_simp; refine hK _ ?_; clear hK K)
                      refine wpQF_nil ?_
                      clear lq lz
                      have hcall := bTake_any g r.e r.m (H j) now o.n wd hbkd hm0 (by omega)
                      have hQd := hQ6.out.below hbd hz3
                      obtain ⟨BT, hBT⟩ : ∃ b, decide (0 ≤ o.n ∧ o.n ≤ H j) = b := ⟨_, rfl⟩
                      rw [hBT] at hcall
                      clear hq2 hq2d hbkd hcs hbk hQ6 hg6
                      replace hcall := hide hcall
                      replace hQd := hide hQd
                      replace hgzd := hide hgzd
                      replace hBT := hide hBT
                      refine wpW_step 6 rfl (by as_aux_lemma => kernel_rfl) (fun K hK => ?_)
                      go_simp
                      go_at_call 24
                      refine hcall.out.mono ?_
                      rintro e' w9 ⟨rfl, hg9, hk9⟩
                      refine hK _ _ (relS_of rfl ⟨hg9.os, hg9.tape, hg9.output, hg9.size, fun q hj hne => hg9.block q (by omega) (fun e => hne (by cases e; rfl))⟩) ?_
                      clear hK K
                      have hK9 := hQd.out.bk.turn hgq.out hg9 hr.out (y := ((if 0 ≤ o.n ∧ o.n ≤ H j then H j - o.n else H j), now)) hk9
                      have e9 : (fun k => if k = j then ((if 0 ≤ o.n ∧ o.n ≤ H j then H j - o.n else H j), now) else ((fun k => (H k, now)) k)) = (fun k => (tkH H (some j) o.n k, now)) := by
                        funext k
                        unfold tkH
                        dsimp only
                        split <;> rfl
                      rw [e9] at hK9
                      have hB39 := below_grown hg9 (Nat.le_trans hQd.out.size (Nat.le_refl _)) hgB
                      have hL9 := hQd.out.lim.onB hin.out hB39
                      have hB9 := hQd.out.bel.trans (hB39.mono hz3)
                      have hz9 : OpAt w9 z o := (hg9.block z (lt_of_blk hgzd.out) (fun e => hgz (by cases e; rfl))).trans hgzd.out
                      have hs9 : w3.heap.size ≤ w9.heap.size := Nat.le_trans hQd.out.size hg9.size
                      have hlo := hQd.out.lo
                      have hhi := hQd.out.hi
                      have hle := hQd.out.le
                      clear hg9 hk9 hQd hgzd hcall e9 hB39
                      have htk := lTake_is w9 _ x tg N _ rs bs ls gs H now hL9 hgl (by omega) hok2.out hG.out hle o.a ⟨h61, h62⟩ o.n
                      rw [hU.out, show tkB H (some j) o.n = BT from hBT.out] at htk
                      clear hL9
                      replace hK9 := hide hK9
                      replace hB9 := hide hB9
                      replace hz9 := hide hz9
                      replace htk := hide htk
                      replace hle := hide hle
                      refine wpW_step 7 rfl (by as_aux_lemma => kernel_rfl) (fun K hK => ?_)
                      go_simp
                      refine hK _ _ (relS_refl _ _ _ _ _) ?_
                      clear hK K
                      refine wpW_done (by as_aux_lemma => kernel_rfl) ?_ _
                      have hcg := blk_cell hz9.out
                      go_wp2_with fail
                      refine htk.out.mono ?_
                      rintro e w10 ⟨rfl, hL10, hk10⟩
                      have hP10 : PlayAt w2.heap.size w3.heap.size x tg w2 N rs bs (.slice (some ⟨q2, 0, none⟩) gs2.length cv) ls gs gs2 now (tkH H (some j) o.n) w10 := ⟨hlo, hhi, hB9.out.trans (below_kept hk10 (Nat.le_trans hz3 hs9) (fun j hj => hL10.hgs j hj)), Nat.le_trans hs9 hk10.size, hL10, hK9.out.kept hk10 (fun j hj => hin.out.gs j hj), tkH_le (some j) o.n hle.out⟩
                      clear hcg htk hK9 hB9 hz9 hL10 hk10
                      replace hP10 := hide hP10
                      go_wp2_with fail
                      exact ⟨⟨k + 1, now, tkH H (some j) o.n, by omega, by first | rfl | go_num, rfl, hP10.out⟩, by simp only [intOf]; omega⟩
                  · obtain ⟨UA, hUA⟩ : ∃ u, uL U = u := ⟨_, rfl⟩
                    rw [hUA]
                    have hcg := blk_cell hg6
                    have htk := lTake_is w6 _ x tg N _ rs bs ls gs H now hQ6.lim hgl (by omega) hok2.out hG.out hQ6.le o.a ⟨h61, h62⟩ o.n
                    have e1 : tkB H U o.n = false := by
                      unfold tkB
                      split <;> (rw [decide_eq_false_iff_not]; omega)
                    have e2 : tkH H U o.n = H := by
                      unfold tkH
                      split
                      · rfl
                      · funext i
                        split
                        · rename_i hij
                          rw [if_neg (by omega), hij]
                        · rfl
                    rw [hU.out, e1, e2] at htk
                    clear e1 e2 hUA
                    replace htk := hide htk
                    replace hQ6 := hide hQ6
                    replace hg6 := hide hg6
                    go_wp2_with fail
                    refine htk.out.mono ?_
                    rintro e w9 ⟨rfl, hL9, hk9⟩
                    have hP9 : PlayAt w2.heap.size w3.heap.size x tg w2 N rs bs (.slice Av i cv) ls gs gs2 now H w9 := ⟨hQ6.out.lo, hQ6.out.hi, hQ6.out.bel.trans (below_kept hk9 (Nat.le_trans hz3 hQ6.out.size) (fun j hj => hL9.hgs j hj)), Nat.le_trans hQ6.out.size hk9.size, hL9, hQ6.out.bk.kept hk9 (fun j hj => hin.out.gs j hj), hQ6.out.le⟩
                    clear hcg htk hQ6 hg6 hL9 hk9
                    replace hP9 := hide hP9
                    go_wp2_with fail
                    exact ⟨⟨k + 1, now, H, by omega, by first | rfl | go_num, rfl, hP9.out⟩, by simp only [intOf]; omega⟩
              · have hk60' : ¬ (k : Int) < 60 := by omega
                replace hQ := hide hQ
                go_wp2_with fail
                go_meet
                exact ⟨now, H, rfl, hQ.out⟩
            · have hk1' : ¬ (k : Int) < (n1 : Int) := by omega
              replace hQ := hide hQ
              go_wp2_with fail
              go_meet
              exact ⟨now, H, rfl, hQ.out⟩
        case rest =>
          obtain ⟨now, H, rfl, hQ⟩ := hcut
          have hzc := hQ.size
          replace hQ := hide hQ
          go_wp2_with fail
          go_loopw [23] (fun iv wr => ∃ q : Nat, q ≤ i ∧ iv = .int .i64 (q : Int) ∧ Below wc.heap.size wc wr) (fun iv _ => i - (intOf iv).toNat)
          case atStart => exact ⟨0, by omega, rfl, Below.refl _ _⟩
          case round =>
            obtain ⟨q, hq, rfl, hbr⟩ := hrel
            have hQr := hQ.out.below hbr hz3
            have hzr := hbr.size
            by_cases hqi : q < i
            · have hqlt : (q : Int) < (i : Int) := by omega
              obtain ⟨g, hgq⟩ : ∃ g, gs2[q]? = some g := ⟨gs2[q]'(by omega), List.getElem?_eq_getElem _⟩
              obtain ⟨q2, cap, cs, hAv, hq2, hcs⟩ := row_at hQr.bk.row hgq
              cases hAv
              obtain ⟨r, hr, hbk⟩ := hQr.bk.bks q g hgq
              have hrr := (hG.out.at hr).2.2.1
              obtain ⟨he0, he, hm0, hmm⟩ := (rightR_iff r.e r.m).1 hrr
              have qa := fun l : Later wr => (lHave_is l.w _ x tg N _ _ rs bs ls gs H now (hQr.lim.below l.hb) hgl (by omega) hG.out q (by omega)).mono (fun e w' (h : e = .returned (.int .i64 (H q)) ∧ w' = l.w) => (⟨h.1, h.2 ▸ Below.refl _ _⟩ : e = .returned (.int .i64 (H q)) ∧ Below l.w.heap.size l.w w'))
              have qb := fun l : Later wr => (bHave_any g r.e r.m (H q) now l.w (blk_below l.hb (lt_of_blk hbk) hbk) hm0).mono (fun e w' (h : e = .returned (.int .i64 (H q)) ∧ w' = l.w) => (⟨h.1, h.2 ▸ Below.refl _ _⟩ : e = .returned (.int .i64 (H q)) ∧ Below l.w.heap.size l.w w'))
              have lq := fun l : Later wr => (blk_cell (blk_below l.hb (lt_of_blk hq2) hq2) q).trans hcs
              clear hQr hq2 hcs hbk hr hgq
              replace hbr := hide hbr
              replace qa := hide qa
              replace qb := hide qb
              go_upto_region 38 with fail
              refine wp_region_L (by as_aux_lemma => kernel_rfl) ?_
              refine wpE_seg 0 9 (fuel := 0) (by as_aux_lemma => kernel_rfl) (fun d _ _ _ _ h => by cases d <;> exact h) (by as_aux_lemma => kernel_rfl) (by as_aux_lemma => kernel_rfl) ?_
              simp only [List.drop_zero, List.take_succ_cons, List.take_zero]
              iterate 2 (refine wpQE_step (fun K hK => ?_); go_simp; refine hK _ ?_; clear hK K)
              (refine wpQE_step (fun K hK => ?_); go_simp; apply Exists.intro; refine ⟨fun l => ?_, hK _ ?_⟩; (go_at_call 20; refine (qa.out l).mono ?_; rintro e w' ⟨rfl, hb⟩; exact ⟨rfl, hb⟩); clear hK K)
              iterate 4 (refine wpQE_step (fun K hK => ?_); go_simp; refine hK _ ?_; clear hK K)
              (refine wpQE_step (fun K hK => ?_); go_simp; apply Exists.intro; refine ⟨fun l => ?_, hK _ ?_⟩; (go_at_call 26; refine (qb.out l).mono ?_; rintro e w' ⟨rfl, hb⟩; exact ⟨rfl, hb⟩); clear hK K)
              iterate 1 (refine wpQE_step (fun K hK => ?_); go_simp; refine hK _ ?_; clear hK K)
              refine wpQE_nil ?_
              refine wpE_done (by as_aux_lemma => kernel_rfl) (fun w9 hb9 => ?_) 0
              clear lq qa qb
              have hbx := hbr.out.trans (hb9.mono hzr)
              clear hb9 hbr
              replace hbx := hide hbx
              go_wp2_with fail
              exact ⟨⟨q + 1, by omega, by first | rfl | go_num, hbx.out⟩, by simp only [intOf]; omega⟩
            · obtain rfl : q = i := by omega
              have hlt2 : ((q : Int) < (q : Int)) = False := by simp
              have hg9 := blk_below hQr.bel hz1 hg1.out
              have hcg := blk_cell hg9
              have hzw : w.heap.size < wr.heap.size := lt_of_blk hg9
              have hu := under_any q c A' ls hokp.out a ha wr (hx2.out.on hQr.bel) (by omega)
              rw [underL_eq] at hu
              obtain ⟨U, hU⟩ : ∃ U, undF ls a = U := ⟨_, rfl⟩
              rw [hU] at hu
              clear hbr
              replace hQr := hide hQr
              replace hu := hide hu
              replace hU := hide hU
              replace hg9 := hide hg9
              go_wp2_with fail
              refine hu.out.mono ?_
              rintro e w6 ⟨rfl, hb6⟩
              have hQ6 := hQr.out.below hb6 hz3
              have hg6 := blk_below hb6 hzw hg9.out
              clear hcg hu hQr hg9
              have hw := lWait_is w6 _ x tg N _ rs bs ls gs H now hQ6.lim hgl (by omega) hok2.out hG.out hQ6.le hQ6.lo hQ6.hi a ha k1
              rw [hU.out] at hw
              have hB6 := hB1.out.trans (hQ6.bel.mono hB1.out.size)
              have p := fun (wy : World) (hb : Below w6.heap.size w6 wy) => hA.out wy (hm1.out.below (hQ6.bel.trans (hb.mono (Nat.le_trans hz3 hQ6.size))))
              have hcg := blk_cell hg6
              clear hb6
              cases U with
              | none =>
                dsimp only [uL]
                clear hg6
                by_cases hk0 : k1 < 0
                · rw [show wtF ls H now none k1 = -1 by unfold wtF; rw [if_pos hk0]] at hw
                  clear hQ6
                  replace hw := hide hw
                  replace hB6 := hide hB6
                  replace p := hide p
                  go_wp2_with fail
                  refine hw.out.mono ?_
                  rintro e w9 ⟨rfl, hb9⟩
                  have p9 := p.out w9 hb9
                  have hB9 := hB6.out.trans (hb9.mono hB6.out.size)
                  clear hcg hw hb9
                  replace p9 := hide p9
                  replace hB9 := hide hB9
                  go_wp2_with fail
                  refine p9.out.mono ?_
                  rintro e w10 ⟨rfl, hb10⟩
                  have hB10 := hB9.out.trans (hb10.mono hB9.out.size)
                  clear hb10 p9
                  replace hB10 := hide hB10
                  go_wp2_with fail
                  go_ret
                  exact ⟨rfl, hB10.out⟩
                · rw [show wtF ls H now none k1 = now by unfold wtF; rw [if_neg hk0]] at hw
                  clear hQ6
                  replace hw := hide hw
                  replace hB6 := hide hB6
                  replace p := hide p
                  go_wp2_with fail
                  refine hw.out.mono ?_
                  rintro e w9 ⟨rfl, hb9⟩
                  have p9 := p.out w9 hb9
                  have hB9 := hB6.out.trans (hb9.mono hB6.out.size)
                  clear hcg hw hb9
                  replace p9 := hide p9
                  replace hB9 := hide hB9
                  go_wp2_with fail
                  refine p9.out.mono ?_
                  rintro e w10 ⟨rfl, hb10⟩
                  have hB10 := hB9.out.trans (hb10.mono hB9.out.size)
                  clear hb10 p9
                  replace hB10 := hide hB10
                  go_wp2_with fail
                  go_ret
                  exact ⟨rfl, hB10.out⟩
              | some j =>
                have hjl := undF_lt ls a j hU.out
                have i9 : (0 : Int) ≤ (j : Int) := by omega
                have i9b : (j : Int) < (q : Int) := by omega
                have i9c : j < q := by omega
                dsimp only [uL]
                obtain ⟨g, hgq⟩ : ∃ g, gs2[j]? = some g := ⟨gs2[j]'(by omega), List.getElem?_eq_getElem _⟩
                obtain ⟨q2, cap, cs, hAv, hq2, hcs⟩ := row_at hQ6.bk.row hgq
                cases hAv
                obtain ⟨r, hr, hbk⟩ := hQ6.bk.bks j g hgq
                have hrr := (hG.out.at hr).2.2.1
                obtain ⟨he0, he, hm0, hmm⟩ := (rightR_iff r.e r.m).1 hrr
                have hHq := hQ6.le j r hr
                have hbw := bWait_any g r.e r.m (H j) now k1 w6 hbk hm0 hHq.1 hHq.2 hmm he0 he hQ6.lo hQ6.hi
                have hrow := (blk_cell hq2 j).trans hcs
                have hw2 := fun (wy : World) (hb : Below w6.heap.size w6 wy) => lWait_is wy _ x tg N _ rs bs ls gs H now (hQ6.lim.below hb) hgl (by omega) hok2.out hG.out hQ6.le hQ6.lo hQ6.hi a ha k1
                rw [hU.out] at hw2
                have hg62 := fun (wy : World) (hb : Below w6.heap.size w6 wy) => blk_cell (blk_below hb (lt_of_blk hg6) hg6)
                obtain ⟨WT, hWT⟩ : ∃ b, waitF r.e r.m (H j) now k1 = b := ⟨_, rfl⟩
                rw [hWT] at hbw
                have e1 : wtF ls H now (some j) k1 = if k1 < 0 then -1 else WT := by unfold wtF; dsimp only; rw [hr]; dsimp only; rw [hWT]
                rw [e1] at hw2
                clear hw hq2 hcs hbk hQ6 hg6 hr hgq e1 hWT
                by_cases hk0 : k1 < 0
                · rw [if_pos hk0] at hw2
                  replace hw2 := hide hw2
                  replace hB6 := hide hB6
                  replace p := hide p
                  replace hbw := hide hbw
                  replace hg62 := hide hg62
                  go_wp2_with fail
                  refine hbw.out.mono ?_
                  rintro e w8 ⟨rfl, hb8⟩
                  have hw8 := hw2.out w8 hb8
                  clear hcg hrow
                  have hcg := hg62.out w8 hb8
                  replace hw8 := hide hw8
                  go_wp2_with fail
                  refine hw8.out.mono ?_
                  rintro e w9 ⟨rfl, hb9⟩
                  have hb89 := hb8.trans (hb9.mono hb8.size)
                  have p9 := p.out w9 hb89
                  have hB9 := hB6.out.trans (hb89.mono hB6.out.size)
                  clear hcg hw8 hb9 hb89 hb8 hbw
                  replace p9 := hide p9
                  replace hB9 := hide hB9
                  go_wp2_with fail
                  refine p9.out.mono ?_
                  rintro e w10 ⟨rfl, hb10⟩
                  have hB10 := hB9.out.trans (hb10.mono hB9.out.size)
                  clear hb10 p9
                  replace hB10 := hide hB10
                  go_wp2_with fail
                  go_ret
                  exact ⟨rfl, hB10.out⟩
                · rw [if_neg hk0] at hw2
                  replace hw2 := hide hw2
                  replace hB6 := hide hB6
                  replace p := hide p
                  replace hbw := hide hbw
                  replace hg62 := hide hg62
                  go_wp2_with fail
                  refine hbw.out.mono ?_
                  rintro e w8 ⟨rfl, hb8⟩
                  have hw8 := hw2.out w8 hb8
                  clear hcg hrow
                  have hcg := hg62.out w8 hb8
                  replace hw8 := hide hw8
                  go_wp2_with fail
                  refine hw8.out.mono ?_
                  rintro e w9 ⟨rfl, hb9⟩
                  have hb89 := hb8.trans (hb9.mono hb8.size)
                  have p9 := p.out w9 hb89
                  have hB9 := hB6.out.trans (hb89.mono hB6.out.size)
                  clear hcg hw8 hb9 hb89 hb8 hbw
                  replace p9 := hide p9
                  replace hB9 := hide hB9
                  go_wp2_with fail
                  refine p9.out.mono ?_
                  rintro e w10 ⟨rfl, hb10⟩
                  have hB10 := hB9.out.trans (hb10.mono hB9.out.size)
                  clear hb10 p9
                  replace hB10 := hide hB10
                  go_wp2_with fail
                  go_ret
                  exact ⟨rfl, hB10.out⟩
theorem lplays_row (A : Option Addr) (n c : Nat) (es : List Rul) (A1 : Option Addr) (n1 c1 : Nat) (os : List LOp) (v : Bool) (h l : Int) (k1 : Int) (w : World) (hx : IsT rulC 6 w w.heap.size A n es ∧ ∀ x ∈ es, Rul.ok x) (hnc : n ≤ c) (hcm : c ≤ maxLen) (hs : IsT opC 5 w w.heap.size A1 n1 os ∧ ∀ x ∈ os, LOp.ok x) (hnc1 : n1 ≤ c1) (hcm1 : c1 ≤ maxLen) (h1 : (Lit.int .u64 h).wf = true) (h2 : (Lit.int .u64 l).wf = true) (_ : (Lit.int .i64 k1).wf = true) (hm : MaxAt w) :
    Calls Tryd.prog 5 #[.slice A n c, .slice A1 n1 c1, .agg #[.bool v, .int .u64 h, .int .u64 l], .int .i64 k1] w fun e w' => e = .returned (.bool true) ∧ Below w.heap.size w w' := by
  obtain ⟨h, rfl, h1'⟩ := u64_nat h1
  obtain ⟨l, rfl, h2'⟩ := u64_nat h2
  exact lplays_walk A n c es A1 n1 c1 os ⟨v, h, l⟩ ⟨h1', h2'⟩ k1 w hx.1 hx.2 hnc hcm hs.1 hs.2 hnc1 hcm1 hm
end Addr05
end Go.Proofs.YtbcicbiphgeghaaDoor
