/- limit: Go. Conditions: numbers in range. -/
import Derived.Test.YtbcicbiphgeghaaDoorQLimitFull11
import Derived.Test.YtbcicbiphgeghaaDoorQLimitFull3
import Derived.Test.YtbcicbiphgeghaaDoorQLimitFull5
import Derived.Test.YtbcicbiphgeghaaDoorQLimitFull2
import Derived.Test.YtbcicbiphgeghaaDoorQLimitFull10
namespace Go.Proofs.YtbcicbiphgeghaaDoor
open Go.RowKit Go.ChangeShapes Go.WideShapes Go.ChangeAt Go.Deep
namespace Addr05
theorem bGo_any (g : Nat) (e m h n t : Int) (w : World) (hb : bktAt w g e m h n) (hr : rightR e m = true) (h0 : 0 ≤ h) (hhm : h ≤ m) (hn0 : 0 ≤ n) (hnt : n ≤ t) (ht : t ≤ 1099511627776) :
    Calls Tryd.prog 22 #[.pointer (some ⟨g, 0, none⟩), .int .i64 t] w fun r w' => r = .returned (.int .i64 0) ∧ w.grownBy w' (some g) ∧ bktAt w' g e m (goH e m h n t) t := by
  obtain ⟨he0, he, hm0, hm⟩ := (rightR_iff e m).1 hr
  obtain ⟨E, rfl⟩ : ∃ E : Nat, e = (E : Int) := ⟨e.toNat, by omega⟩
  obtain ⟨M, rfl⟩ : ∃ E : Nat, m = (E : Int) := ⟨m.toNat, by omega⟩
  obtain ⟨k, rfl⟩ : ∃ E : Nat, n = (E : Int) := ⟨n.toNat, by omega⟩
  obtain ⟨T, rfl⟩ : ∃ T : Nat, t = (k : Int) + (T : Int) := ⟨(t - k).toNat, by omega⟩
  have q := bGo_nat g E M (M - h.toNat) k T h w hb (by omega) (by omega) h0 (by omega) (by omega) (by omega)
  have e1 : (k : Int) + (T : Int) - (k : Int) = (T : Int) := by omega
  have e2 : ((T * E : Nat) : Int) = (T : Int) * (E : Int) := by simp
  have e3 : goH (E : Int) (M : Int) h (k : Int) ((k : Int) + (T : Int)) = (if T * E ≤ M - h.toNat then h + ((T * E : Nat) : Int) else (M : Int)) := by
    unfold goH
    rw [e1, ← e2]
    obtain ⟨P, hP⟩ : ∃ P, T * E = P := ⟨_, rfl⟩
    rw [hP]
    by_cases hc : P ≤ M - h.toNat
    · rw [if_pos hc, if_pos (by omega)]
    · rw [if_neg hc, if_neg (by omega)]
  rw [e3]
  exact q
/-- A rule. -/
structure Rul where
  p : Adr
  i : Int
  e : Int
  m : Int
/-- The buckets of rules: what each has and when. -/
def BksAt (w : World) (R : List Rul) (gs : List Nat) (st : Nat → Int × Int) : Prop :=
  ∀ k g, gs[k]? = some g → ∃ r, R[k]? = some r ∧ bktAt w g r.e r.m (st k).1 (st k).2
theorem BksAt.step {w w' : World} {R : List Rul} {gs : List Nat} {st : Nat → Int × Int} (h : BksAt w R gs st) {i g : Nat} (hi : gs[i]? = some g) (hd : ∀ j, gs[j]? = some g → j = i) (hg : w.grownBy w' (some g)) {r : Rul} (hr : R[i]? = some r) {y : Int × Int} (hb : bktAt w' g r.e r.m y.1 y.2) :
    BksAt w' R gs (fun k => if k = i then y else st k) := by
  intro k g' hk
  by_cases hki : k = i
  · subst hki
    obtain rfl : g' = g := by rw [hi] at hk; cases hk; rfl
    exact ⟨r, hr, by dsimp only; rw [if_pos rfl]; exact hb⟩
  · obtain ⟨r', hr', hb'⟩ := h k g' hk
    refine ⟨r', hr', ?_⟩
    dsimp only
    rw [if_neg hki]
    have hne : g' ≠ g := fun e => hki (hd k (by rw [← e]; exact hk))
    unfold bktAt at hb' ⊢
    rw [hg.block g' (lt_of_blk hb') (fun e => hne (by cases e; rfl))]
    exact hb'
/-- What each bucket has and when, where those of the first i have gone on to t. -/
def goSt (R : List Rul) (H : Nat → Int) (now t : Int) (i : Nat) : Nat → Int × Int := fun k =>
  if k < i then (match R[k]? with | some r => goH r.e r.m (H k) now t | none => H k, t) else (H k, now)
theorem goSt_zero (R : List Rul) (H : Nat → Int) (now t : Int) (k : Nat) : goSt R H now t 0 k = (H k, now) := by
  unfold goSt
  rw [if_neg (by omega)]
theorem goSt_succ (R : List Rul) (H : Nat → Int) (now t : Int) (i : Nat) {r : Rul} (hr : R[i]? = some r) (k : Nat) : (if k = i then (goH r.e r.m (H i) now t, t) else goSt R H now t i k) = goSt R H now t (i + 1) k := by
  unfold goSt
  by_cases h : k = i
  · subst h
    rw [if_pos rfl, if_pos (by omega), hr]
  · rw [if_neg h]
    by_cases h2 : k < i
    · rw [if_pos h2, if_pos (by omega)]
    · rw [if_neg h2, if_neg (by omega)]
theorem lGo_no (x tg : Nat) (rs bs : Value) (now t : Int) (ht : t < now ∨ 1099511627776 < t) (w : World) (h : limAt w x tg rs bs now) :
    Calls Tryd.prog 23 #[.pointer (some ⟨x, 0, none⟩), .int .i64 t] w fun r w' => r = .returned (.int .i64 5) ∧ w' = w := by
  have q1 := lnone_any x tg rs _ now w h
  unfold limAt at h
  have c3 := blk_cell h 3
  clear h
  replace q1 := hide q1
  by_cases h1 : t < now
  · clear ht
    go_enter Tryd.func23, Tryd.ntmps23
    go_wp2_with fail
    refine (q1.out).mono ?_
    rintro e w2 ⟨rfl, rfl⟩
    clear q1
    go_wp2_with fail
    go_ret
    exact ⟨rfl, rfl⟩
  · have h2 : 1099511627776 < t := by omega
    clear ht
    go_enter Tryd.func23, Tryd.ntmps23
    go_wp2_with fail
    refine (q1.out).mono ?_
    rintro e w2 ⟨rfl, rfl⟩
    clear q1
    go_wp2_with fail
    go_ret
    exact ⟨rfl, rfl⟩
/-- What Go turns: the limits' own cells and the buckets. -/
def goneT (x : Nat) (gs : List Nat) (k : Nat) : Prop := k = x ∨ k ∈ gs
set_option maxRecDepth 20000 in
set_option maxHeartbeats 8000000 in
theorem lGo_yes (x tg l c : Nat) (A : Option Addr) (rs : Value) (now t : Int) (hnow : 0 ≤ now) (hnt : now ≤ t) (ht : t ≤ 1099511627776) (w : World) (h : limAt w x tg rs (.slice A l c) now)
    (R : List Rul) (gs : List Nat) (H : Nat → Int) (hl : l ≤ 1099511627776) (hgl : gs.length = l)
    (hA : ∀ (k g : Nat), gs[k]? = some g → ∃ (q : Nat) (cs : Array Value), A = some ⟨q, 0, none⟩ ∧ w.heap[q]? = some (.cells cs 52 (0, 0)) ∧ cs[k]? = some (.pointer (some ⟨g, 0, none⟩)) ∧ q ∉ gs)
    (hR : ∀ (k : Nat) (r : Rul), R[k]? = some r → rightR r.e r.m = true ∧ 0 ≤ H k ∧ H k ≤ r.m) (hd : ∀ (i j g : Nat), gs[i]? = some g → gs[j]? = some g → j = i) (hx : x ∉ gs)
    (hB : BksAt w R gs (fun k => (H k, now))) :
    Calls Tryd.prog 23 #[.pointer (some ⟨x, 0, none⟩), .int .i64 t] w fun r w' => r = .returned (.int .i64 0) ∧ limAt w' x tg rs (.slice A l c) t ∧ BksAt w' R gs (goSt R H now t l) ∧ KeptS w.heap.size (goneT x gs) w w' := by
  have q1 := lnone_any x tg rs _ now w h
  have h' := h
  unfold limAt at h
  have c2 := blk_cell h 2
  have c3 := blk_cell h 3
  have hxl := lt_of_blk h
  have i1 : ¬ t < now := by omega
  have i2 : ¬ 1099511627776 < t := by omega
  clear h
  replace q1 := hide q1
  replace hA := hide hA
  replace hR := hide hR
  replace hd := hide hd
  replace hx := hide hx
  replace hB := hide hB
  replace h' := hide h'
  go_enter Tryd.func23, Tryd.ntmps23
  go_wp2_with fail
  refine (q1.out).mono ?_
  rintro e w2 ⟨rfl, rfl⟩
  clear q1
  go_wp2_with fail
  go_loopw [6, 26] (fun _ iv wr => ∃ i : Nat, i ≤ l ∧ iv = .int .i64 (i : Int) ∧ BksAt wr R gs (goSt R H now t i) ∧ KeptS w2.heap.size (goneT x gs) w2 wr ∧ limAt wr x tg rs (.slice A l c) now) (fun _ iv _ => l - (intOf iv).toNat)
  case atStart =>
    refine ⟨0, by omega, rfl, ?_, keptS_refl _ _ _, h'.out⟩
    have e : goSt R H now t 0 = fun k => (H k, now) := funext fun k => goSt_zero R H now t k
    rw [e]
    exact hB.out
  case round =>
    obtain ⟨i, hi, rfl, hBr, hkr, hlr⟩ := hrel
    by_cases hil : i < l
    · obtain ⟨g, hgi⟩ : ∃ g, gs[i]? = some g := ⟨gs[i], List.getElem?_eq_getElem (by omega)⟩
      obtain ⟨q, cs, rfl, hq, hcs, hqg⟩ := hA.out i g hgi
      obtain ⟨r, hri, hbk⟩ := hBr i g hgi
      obtain ⟨hrr, hr0, hrm⟩ := hR.out i r hri
      have est : goSt R H now t i i = (H i, now) := by unfold goSt; rw [if_neg (by omega)]
      rw [est] at hbk
      have qg := bGo_any g r.e r.m (H i) now t wr hbk hrr hr0 hrm hnow hnt ht
      have hqx : ¬ goneT x gs q := by
        rintro (e | e)
        · subst e
          have h1 := h'.out
          unfold limAt at h1
          rw [h1] at hq
          simp at hq
        · exact hqg e
      have hqr := (hkr.block q (lt_of_blk hq) hqx).trans hq
      have ci := blk_cell hqr i
      rw [hcs] at ci
      have hlt : (i : Int) < (l : Int) := by omega
      clear hq hqr hcs hbk est hrr hr0 hrm
      replace hBr := hide hBr
      replace hkr := hide hkr
      replace hlr := hide hlr
      replace qg := hide qg
      replace hgi := hide hgi
      replace hri := hide hri
      replace hqx := hide hqx
      replace hqg := hide hqg
      go_wp2_with fail
      refine qg.out.mono ?_
      rintro e w3 ⟨rfl, hg3, hb3⟩
      clear qg ci
      have hgx : g ≠ x := fun e => hx.out (e ▸ List.mem_of_getElem? hgi.out)
      have hl3 : limAt w3 x tg rs (.slice (some ⟨q, 0, none⟩) l c) now := by
        have h1 := hlr.out
        unfold limAt at h1 ⊢
        rw [hg3.block x (lt_of_blk h1) (fun e => hgx (by cases e; rfl))]
        exact h1
      have hk3 : KeptS w2.heap.size (goneT x gs) w2 w3 := keptS_trans _ _ _ _ _ hkr.out ⟨hg3.os, hg3.tape, hg3.output, hg3.size, fun k hk hne => hg3.block k (Nat.lt_of_lt_of_le hk hkr.out.size) (fun e => hne (.inr (by cases e; exact List.mem_of_getElem? hgi.out)))⟩
      have hB3 : BksAt w3 R gs (goSt R H now t (i + 1)) := by
        have h1 := hBr.out.step hgi.out (fun j hj => hd.out i j g hgi.out hj) hg3 hri.out (y := (goH r.e r.m (H i) now t, t)) hb3
        have e : (fun k => if k = i then (goH r.e r.m (H i) now t, t) else goSt R H now t i k) = goSt R H now t (i + 1) := funext fun k => goSt_succ R H now t i hri.out k
        rw [e] at h1
        exact h1
      clear hg3 hb3
      replace hl3 := hide hl3
      replace hk3 := hide hk3
      replace hB3 := hide hB3
      go_wp2_with fail
      exact ⟨⟨i + 1, by omega, by first | rfl | go_num, hB3.out, hk3.out, hl3.out⟩, by simp only [intOf]; omega⟩
    · obtain rfl : i = l := by omega
      have hlt : ((i : Int) < (i : Int)) = False := by simp
      have h1 := hlr
      unfold limAt at h1
      have c3' := blk_cell h1 3
      have f3' := blk_free h1 3
      have hend : limAt (wr.setCell ⟨x, 3, none⟩ (.int .i64 t)) x tg rs (.slice A i c) t := blk_set h1 3 (.int .i64 t)
      have hke : KeptS w2.heap.size (goneT x gs) w2 (wr.setCell ⟨x, 3, none⟩ (.int .i64 t)) := keptS_set hkr (p := ⟨x, 3, none⟩) (.inl rfl) _
      have hBe : BksAt (wr.setCell ⟨x, 3, none⟩ (.int .i64 t)) R gs (goSt R H now t i) := by
        intro k g hk
        obtain ⟨r, hr, hb⟩ := hBr k g hk
        refine ⟨r, hr, ?_⟩
        have hgx : g ≠ x := fun e => hx.out (e ▸ List.mem_of_getElem? hk)
        have hgw := grown_set (p := ⟨x, 3, none⟩) (grown_refl wr (some x)) rfl (.int .i64 t)
        unfold bktAt at hb ⊢
        rw [hgw.block g (lt_of_blk hb) (fun e => hgx (by cases e; rfl))]
        exact hb
      clear h1 hlr hBr hkr
      replace hend := hide hend
      replace hke := hide hke
      replace hBe := hide hBe
      go_wp2_with fail
      go_ret
      exact ⟨rfl, hend.out, hBe.out, hke.out⟩
end Addr05
end Go.Proofs.YtbcicbiphgeghaaDoor
/- limit: at (the place of the rule with a prefix). Conditions: numbers of 64 bits. -/
namespace Go.Proofs.YtbcicbiphgeghaaDoor
open Go.RowKit Go.ChangeShapes Go.WideShapes Go.ChangeAt Go.Deep
section
variable {P : Program} {ops : Array Oper} {Q : Exit → Act → World → Prop} {rest : List Oper} {a : Act} {w : World}
/-- A new cell, one other value, and a struct stored into the cell. -/
theorem wpl_newm {oa om os : Oper} (hga : oa.guard = none) (hgm : om.guard = none) (hgs : os.guard = none) (T : TypeId) (zs : Array Value)
    (hal : ∀ (ρ : Operand → Value) (w : World), (execOp ρ oa).run P w = .ok (.value (.pointer (some ⟨w.heap.size, 0, none⟩))) (w.alloc (.cells zs T)))
    (d e : Nat) (hd : oa.dst = some d) (he : om.dst = some e) (u : Value) (hu : ∀ w : World, (execOp (a.put (some d) (.pointer (some ⟨w.heap.size, 0, none⟩))).eval om).run P (w.alloc (.cells zs T)) = .ok (.value u) (w.alloc (.cells zs T)))
    (y : Operand) (ho : os.op = .store T (.tmp d) y) (vs : Array Value) (hy : ∀ w : World, ((a.put (some d) (.pointer (some ⟨w.heap.size, 0, none⟩))).put (some e) u).eval y = .agg vs)
    (hdd : ∀ w : World, ((a.put (some d) (.pointer (some ⟨w.heap.size, 0, none⟩))).put (some e) u).eval (.tmp d) = .pointer (some ⟨w.heap.size, 0, none⟩))
    (hn : vs.size = zs.size) (hi : (P.info? T).map (·.size) = some vs.size) (h1 : vs.all (·.oneCell') = true)
    (h : ∀ w', w'.heap[w.heap.size]? = some (.cells vs T (0, 0)) → Below w.heap.size w w' → w.heap.size < w'.heap.size → wpList P ops Q rest (((a.put (some d) (.pointer (some ⟨w.heap.size, 0, none⟩))).put (some e) u).put os.dst undef) w') : wpList P ops Q (oa :: om :: os :: rest) a w := by
  refine Go.Great.wpList_runTo hga (some d) hd _ _ (hal _ _) ?_
  refine Go.Great.wpList_runTo hgm (some e) he _ _ (hu _) ?_
  have hb := blk_new w T zs
  refine wpl_st hgs T (.tmp d) y ho w.heap.size 0 (hdd w) vs (hy w) hb (by omega) hi h1 fun w' h2 h3 => ?_
  rw [putA_whole _ _ hn.symm] at h2
  have hs := h3.size
  simp only [World.size_alloc] at hs
  exact h w' h2 (((Below.refl _ _).alloc (Nat.le_refl _) _).trans (below_grown h3 (by simp) (by omega))) (by omega)
end
namespace Addr05
theorem alloc_rul (o : Oper) (h : o.op = .alloc 32) (ρ : Operand → Value) (w : World) : (execOp ρ o).run Tryd.prog w = .ok (.value (.pointer (some ⟨w.heap.size, 0, none⟩))) (w.alloc (.cells #[.bool false, .int .u64 0, .int .u64 0, .int .i64 0, .int .i64 0, .int .i64 0] 32)) := by
  obtain ⟨d, op, t, ps, af, g⟩ := o
  dsimp only at h
  subst h
  kernel_rfl
/-- A rule's cells. -/
def rulC (r : Rul) : List Value := [.bool r.p.v6, .int .u64 (r.p.hi : Int), .int .u64 (r.p.lo : Int), .int .i64 r.i, .int .i64 r.e, .int .i64 r.m]
theorem rul_one (v6 : Bool) (hi lo i e m : Int) : (#[.bool v6, .int .u64 hi, .int .u64 lo, .int .i64 i, .int .i64 e, .int .i64 m] : Array Value).all (·.oneCell') = true := all_oneCell_toArray (by
  intro v hv
  simp only [List.mem_cons, List.not_mem_nil, or_false] at hv
  rcases hv with rfl | rfl | rfl | rfl | rfl | rfl <;> rfl)
/-- The place of the first rule with a prefix, or -1. -/
def atL (rs : List Rul) (p : Adr) (i : Int) : Int := match rs.findIdx? (fun r => decide (r.p = p ∧ r.i = i)) with | some k => (k : Int) | none => -1
set_option maxRecDepth 20000 in
set_option maxHeartbeats 8000000 in
theorem lAt_any (x tg n c : Nat) (A : Option Addr) (bs : Value) (now : Int) (es : List Rul) (p : Adr) (b : Int) (w : World) (h : limAt w x tg (.slice A n c) bs now) (hes : IsT rulC 6 w w.heap.size A n es) (hn : n ≤ 1099511627776) :
    Calls Tryd.prog 53 #[.pointer (some ⟨x, 0, none⟩), .agg (pArr p b)] w fun r w' => r = .returned (.int .i64 (atL es p b)) ∧ Below w.heap.size w w' := by
  have hC : ∀ r, (rulC r).length = 6 := fun _ => rfl
  have hlen := hes.1
  obtain ⟨X, hX⟩ : ∃ X, atL es p b = X := ⟨_, rfl⟩
  have hX1 : ∀ (k : Nat) (r : Rul), es[k]? = some r → r.p = p → r.i = b → (∀ (j : Nat) (r' : Rul), j < k → es[j]? = some r' → ¬ (r'.p = p ∧ r'.i = b)) → X = (k : Int) := by
    intro k r hk h1 h2 h3
    obtain ⟨hkl, hke⟩ := List.getElem?_eq_some_iff.1 hk
    have e : es.findIdx? (fun r => decide (r.p = p ∧ r.i = b)) = some k := by
      rw [List.findIdx?_eq_some_iff_getElem]
      refine ⟨hkl, by rw [hke]; simp [h1, h2], fun j hj => ?_⟩
      have := h3 j _ hj (List.getElem?_eq_getElem (by omega))
      simpa using this
    rw [← hX]
    unfold atL
    rw [e]
  have hX2 : (∀ (j : Nat) (r' : Rul), es[j]? = some r' → ¬ (r'.p = p ∧ r'.i = b)) → X = -1 := by
    intro h3
    have e : es.findIdx? (fun r => decide (r.p = p ∧ r.i = b)) = none := by
      rw [List.findIdx?_eq_none_iff]
      intro r hr
      obtain ⟨j, hj⟩ := List.mem_iff_getElem?.1 hr
      simpa using h3 j r hj
    rw [← hX]
    unfold atL
    rw [e]
  rw [hX]
  clear hX
  obtain ⟨v6, hi, lo⟩ := p
  unfold pArr
  dsimp only
  obtain ⟨w1, hw1⟩ : ∃ w1, w.alloc (.cells #[.bool v6, .int .u64 (hi : Int), .int .u64 (lo : Int), .int .i64 b] 28) = w1 := ⟨_, rfl⟩
  have hB : Below w.heap.size w w1 := hw1 ▸ (Below.refl _ _).alloc (Nat.le_refl _) _
  have hg : w1.heap[w.heap.size]? = some (.cells #[.bool v6, .int .u64 (hi : Int), .int .u64 (lo : Int), .int .i64 b] 28 (0, 0)) := hw1 ▸ blk_new _ _ _
  have hz : w.heap.size < w1.heap.size := by rw [← hw1]; simp
  have hx1 := blk_below hB (lt_of_blk h) h
  have hes1 := hes.on hB
  have c1 := blk_cell hx1 1
  clear h hes
  replace hB := hide hB
  replace hg := hide hg
  replace hx1 := hide hx1
  replace hes1 := hide hes1
  replace hX1 := hide hX1
  replace hX2 := hide hX2
  go_enter Tryd.func53, Tryd.ntmps53
  go_upto_region 1 with fail
  clear hw1
  go_wp2_with fail
  go_loopw [5, 6, 12] (fun _ _ iv wr => ∃ i : Nat, i ≤ n ∧ iv = .int .i64 (i : Int) ∧ Below w1.heap.size w1 wr ∧ ∀ (j : Nat) (r' : Rul), j < i → es[j]? = some r' → ¬ (r'.p = ⟨v6, hi, lo⟩ ∧ r'.i = b)) (fun _ _ iv _ => n - (intOf iv).toNat)
  case atStart => exact ⟨0, by omega, rfl, Below.refl _ _, fun j r' hj => by omega⟩
  case round =>
    obtain ⟨i, hi', rfl, hbr, hno⟩ := hrel
    by_cases hil : i < n
    · have hlt : (i : Int) < (n : Int) := by omega
      obtain ⟨bk, off, r, rfl, hbk, hri, hcell⟩ := (hes1.out.below hbr).at hC (by omega) hil
      have c0 : wr.cell? ⟨bk, off + i * 6, none⟩ = some (.bool r.p.v6) := hcell 0 _ rfl
      have c1' : wr.cell? ⟨bk, off + i * 6 + 1, none⟩ = some (.int .u64 (r.p.hi : Int)) := hcell 1 _ rfl
      have c2' : wr.cell? ⟨bk, off + i * 6 + 2, none⟩ = some (.int .u64 (r.p.lo : Int)) := hcell 2 _ rfl
      have c3' : wr.cell? ⟨bk, off + i * 6 + 3, none⟩ = some (.int .i64 r.i) := hcell 3 _ rfl
      have c4' : wr.cell? ⟨bk, off + i * 6 + 4, none⟩ = some (.int .i64 r.e) := hcell 4 _ rfl
      have c5' : wr.cell? ⟨bk, off + i * 6 + 5, none⟩ = some (.int .i64 r.m) := hcell 5 _ rfl
      have hgr := blk_below hbr hz hg.out
      have hzr : w.heap.size < wr.heap.size := Nat.lt_of_lt_of_le hz hbr.size
      obtain ⟨⟨rv, rh, rl⟩, ri, re, rm⟩ := r
      dsimp only at c0 c1' c2' c3' c4' c5'
      clear hcell
      replace hgr := hide hgr
      replace hbr := hide hbr
      replace hno := hide hno
      replace hri := hide hri
      go_upto_region 3 with fail
      apply wp_region_lit
      iterate 3 (refine wpList_plain rfl fun K hK => ?_; go_simp; refine hK _ _ ?_; clear hK K)
      refine wpl_newm rfl rfl rfl 32 _ (alloc_rul _ rfl) 6 5 rfl rfl (.int .i64 (i : Int)) (fun _ => rfl) (.tmp 16) rfl _ (fun _ => rfl) (fun _ => rfl) rfl (by kernel_rfl) (rul_one rv (rh : Int) (rl : Int) ri re rm) ?_
      intro w4 hg4 hb4 hz4
      refine wpList_nil ?_
      go_simp
      have hgb := blk_below hb4 hzr hgr.out
      have hbw := hbr.out.trans (hb4.mono hbr.out.size)
      have k0 := blk_cell hg4 0
      have k1 := blk_cell hg4 1
      have k2 := blk_cell hg4 2
      have k3 := blk_cell hg4 3
      have b0 := blk_cell hgb 0
      have b1 := blk_cell hgb 1
      have b2 := blk_cell hgb 2
      have b3 := blk_cell hgb 3
      have hno := hno.out
      have hri := hri.out
      clear c0 c1' c2' c3' c4' c5' hgr hbr hb4 hg4 hgb hz4
      by_cases e1 : rv = v6
      · subst e1
        by_cases e2 : rh = hi
        · subst e2
          by_cases e3 : rl = lo
          · subst e3
            by_cases e4 : ri = b
            · subst e4
              obtain rfl : X = (i : Int) := hX1.out i _ hri rfl rfl (fun j r' hj hr => hno j r' hj hr)
              have hB3 := hB.out.trans (hbw.mono hB.out.size)
              clear hno hri hbw hX1 hX2
              replace hB3 := hide hB3
              go_wp2_with fail
              go_ret
              exact ⟨rfl, hB3.out⟩
            · have hne := e4
              have hstep : ∀ (j : Nat) (r' : Rul), j < i + 1 → es[j]? = some r' → ¬ (r'.p = ⟨rv, rh, rl⟩ ∧ r'.i = b) := fun j r' hj hr => by
                by_cases hji : j = i
                · subst hji
                  obtain rfl : r' = ⟨⟨rv, rh, rl⟩, ri, re, rm⟩ := by rw [hri] at hr; cases hr; rfl
                  rintro ⟨e1, e2⟩
                  cases e1
                  exact hne (by first | rfl | exact e2)
                · exact hno j r' (by omega) hr
              clear hno hri
              replace hstep := hide hstep
              replace hbw := hide hbw
              go_wp2_with fail
              exact ⟨⟨i + 1, by omega, by first | rfl | go_num, hbw.out, hstep.out⟩, by simp only [intOf]; omega⟩
          · have hne := e3
            have n3 : ¬ (rl : Int) = (lo : Int) := by omega
            have hstep : ∀ (j : Nat) (r' : Rul), j < i + 1 → es[j]? = some r' → ¬ (r'.p = ⟨rv, rh, lo⟩ ∧ r'.i = b) := fun j r' hj hr => by
              by_cases hji : j = i
              · subst hji
                obtain rfl : r' = ⟨⟨rv, rh, rl⟩, ri, re, rm⟩ := by rw [hri] at hr; cases hr; rfl
                rintro ⟨e1, e2⟩
                cases e1
                exact hne (by first | rfl | exact e2)
              · exact hno j r' (by omega) hr
            clear hno hri
            replace hstep := hide hstep
            replace hbw := hide hbw
            go_wp2_with fail
            exact ⟨⟨i + 1, by omega, by first | rfl | go_num, hbw.out, hstep.out⟩, by simp only [intOf]; omega⟩
        · have hne := e2
          have n2 : ¬ (rh : Int) = (hi : Int) := by omega
          have hstep : ∀ (j : Nat) (r' : Rul), j < i + 1 → es[j]? = some r' → ¬ (r'.p = ⟨rv, hi, lo⟩ ∧ r'.i = b) := fun j r' hj hr => by
            by_cases hji : j = i
            · subst hji
              obtain rfl : r' = ⟨⟨rv, rh, rl⟩, ri, re, rm⟩ := by rw [hri] at hr; cases hr; rfl
              rintro ⟨e1, e2⟩
              cases e1
              exact hne (by first | rfl | exact e2)
            · exact hno j r' (by omega) hr
          clear hno hri
          replace hstep := hide hstep
          replace hbw := hide hbw
          go_wp2_with fail
          exact ⟨⟨i + 1, by omega, by first | rfl | go_num, hbw.out, hstep.out⟩, by simp only [intOf]; omega⟩
      · have hne := e1
        have n1 : (rv == v6) = false := by simpa using e1
        have hstep : ∀ (j : Nat) (r' : Rul), j < i + 1 → es[j]? = some r' → ¬ (r'.p = ⟨v6, hi, lo⟩ ∧ r'.i = b) := fun j r' hj hr => by
          by_cases hji : j = i
          · subst hji
            obtain rfl : r' = ⟨⟨rv, rh, rl⟩, ri, re, rm⟩ := by rw [hri] at hr; cases hr; rfl
            rintro ⟨e1, e2⟩
            cases e1
            exact hne (by first | rfl | exact e2)
          · exact hno j r' (by omega) hr
        clear hno hri
        replace hstep := hide hstep
        replace hbw := hide hbw
        go_wp2_with fail
        exact ⟨⟨i + 1, by omega, by first | rfl | go_num, hbw.out, hstep.out⟩, by simp only [intOf]; omega⟩
    · obtain rfl : i = n := by omega
      have hlt : ((i : Int) < (i : Int)) = False := by simp
      obtain rfl : X = -1 := hX2.out fun j r' hj => hno j r' (by have := (List.getElem?_eq_some_iff.1 hj).1; omega) hj
      have hB3 := hB.out.trans (hbr.mono hB.out.size)
      clear hno hbr hX1 hX2
      replace hB3 := hide hB3
      go_wp2_with fail
      go_ret
      exact ⟨rfl, hB3.out⟩
end Addr05
end Go.Proofs.YtbcicbiphgeghaaDoor
/- limit: limits in memory, as they are made: what stays, and what each step turns. Conditions: numbers of 64 bits. -/
namespace Go.Proofs.YtbcicbiphgeghaaDoor
open Go.RowKit Go.ChangeShapes Go.WideShapes Go.ChangeAt Go.Deep
namespace Addr05
def Rul.ok (r : Rul) : Prop := r.p.ok ∧ (-9223372036854775808 ≤ r.i ∧ r.i ≤ 9223372036854775807) ∧ (-9223372036854775808 ≤ r.e ∧ r.e ≤ 9223372036854775807) ∧ (-9223372036854775808 ≤ r.m ∧ r.m ≤ 9223372036854775807)
/-- Rules as what is put into the trie. -/
def putsR (es : List Rul) : List PutE := es.mapIdx fun k r => ⟨r.p, r.i, (k : Int)⟩
theorem putsR_get {es : List Rul} {k : Nat} {r : Rul} (h : es[k]? = some r) : (putsR es)[k]? = some ⟨r.p, r.i, (k : Int)⟩ := by
  unfold putsR
  rw [List.getElem?_mapIdx, h]
  rfl
theorem putsR_len (es : List Rul) : (putsR es).length = es.length := by unfold putsR; simp
/-- What is wrong with the rule at place i; 0: nothing. -/
def badC (es : List Rul) (i : Nat) (r : Rul) : Int := if 256 ≤ i then 6 else if rightP r.p r.i = false then 18 else if rightR r.e r.m = false then 5 else if 0 ≤ atL (es.take i) r.p r.i then 8 else 0
def ptrV (g : Nat) : Value := .pointer (some ⟨g, 0, none⟩)
/-- What a bucket has at first. -/
def stF (R : List Rul) : Nat → Int × Int := fun k => ((R[k]?.map (·.m)).getD 0, 0)
abbrev OwnRul (w : World) (base : Nat) (v : Value) (es : List Rul) : Prop := w.ownsRow base 32 6 v es.length (es.map rulC).flatten
abbrev OwnBk (w : World) (base : Nat) (v : Value) (gs : List Nat) : Prop := OwnR 52 ptrV w base v gs
structure LimC (w : World) (base x tg : Nat) (N : Nodes) (M : Keys) (n : Int) (rs bs : Value) (es : List Rul) (gs : List Nat) (R : List Rul) (st : Nat → Int × Int) (now : Int) : Prop where
  lim : limAt w x tg rs bs now
  trie : TrieAt w tg N M n
  rules : OwnRul w base rs es
  row : OwnBk w base bs gs
  bks : BksAt w R gs st
  dist : ∀ (i j g : Nat), gs[i]? = some g → gs[j]? = some g → j = i
  hx : base ≤ x
  hgs : ∀ g, g ∈ gs → base ≤ g
  node : ∀ k, isNode N k → base ≤ k ∧ k ≠ x ∧ k ∉ gs ∧ rs.ownBlock ≠ some k ∧ bs.ownBlock ≠ some k
section
variable {w w' : World} {base x tg : Nat} {N : Nodes} {M : Keys} {n : Int} {rs bs : Value} {es : List Rul} {gs : List Nat} {R : List Rul} {st : Nat → Int × Int} {now : Int}
theorem LimC.bkt (h : LimC w base x tg N M n rs bs es gs R st now) {g : Nat} (hg : g ∈ gs) : ∃ e m a b, bktAt w g e m a b := by
  obtain ⟨k, hk⟩ := List.mem_iff_getElem?.1 hg
  obtain ⟨r, _, hb⟩ := h.bks k g hk
  exact ⟨_, _, _, _, hb⟩
theorem LimC.bks_on (h : LimC w base x tg N M n rs bs es gs R st now) (hb : ∀ g, g ∈ gs → w'.heap[g]? = w.heap[g]?) : BksAt w' R gs st := by
  intro k g hk
  obtain ⟨r, hr, hbk⟩ := h.bks k g hk
  refine ⟨r, hr, ?_⟩
  unfold bktAt at hbk ⊢
  rw [hb g (List.mem_of_getElem? hk)]
  exact hbk
theorem LimC.below (h : LimC w base x tg N M n rs bs es gs R st now) (hb : Below w.heap.size w w') : LimC w' base x tg N M n rs bs es gs R st now :=
  ⟨blk_below hb (lt_of_blk h.lim) h.lim, h.trie.below hb, row_on h.rules hb, h.row.below hb, h.bks_on (fun g hg => by obtain ⟨_, _, _, _, hk⟩ := h.bkt hg; exact hb.block g (lt_of_blk hk)), h.dist, h.hx, h.hgs, h.node⟩
/-- The blocks of limits lie apart. -/
theorem LimC.rsx (h : LimC w base x tg N M n rs bs es gs R st now) : rs.ownBlock ≠ some x := by
  intro e
  rcases h.rules.2 with ⟨h0, _⟩ | ⟨g, cap, cur, h0, hg, hh, _⟩
  · rw [h0] at e; cases e
  · rw [h0] at e
    have e2 : g = x := by simpa [Value.ownBlock] using e
    have h1 := h.lim
    unfold limAt at h1
    rw [← e2, hh] at h1
    simp at h1
theorem LimC.bsx (h : LimC w base x tg N M n rs bs es gs R st now) : bs.ownBlock ≠ some x := by
  intro e
  rcases h.row.2 with ⟨h0, _⟩ | ⟨g, cap, cur, h0, hg, hh, _⟩
  · rw [h0] at e; cases e
  · rw [h0] at e
    have e2 : g = x := by simpa [Value.ownBlock] using e
    have h1 := h.lim
    unfold limAt at h1
    rw [← e2, hh] at h1
    simp at h1
theorem LimC.gsx (h : LimC w base x tg N M n rs bs es gs R st now) : x ∉ gs := by
  intro e
  obtain ⟨_, _, _, _, hk⟩ := h.bkt e
  have h1 := h.lim
  unfold limAt at h1
  unfold bktAt at hk
  rw [hk] at h1
  simp at h1
theorem LimC.gsr (h : LimC w base x tg N M n rs bs es gs R st now) {g : Nat} (hg : g ∈ gs) : rs.ownBlock ≠ some g := by
  intro e
  obtain ⟨_, _, _, _, hk⟩ := h.bkt hg
  unfold bktAt at hk
  rcases h.rules.2 with ⟨h0, _⟩ | ⟨q, cap, cur, h0, _, hh, _⟩
  · rw [h0] at e; cases e
  · rw [h0] at e
    have e2 : q = g := by simpa [Value.ownBlock] using e
    rw [← e2, hh] at hk
    simp at hk
theorem LimC.gsb (h : LimC w base x tg N M n rs bs es gs R st now) {g : Nat} (hg : g ∈ gs) : bs.ownBlock ≠ some g := by
  intro e
  obtain ⟨_, _, _, _, hk⟩ := h.bkt hg
  unfold bktAt at hk
  rcases h.row.2 with ⟨h0, _⟩ | ⟨q, cap, cur, h0, _, hh, _⟩
  · rw [h0] at e; cases e
  · rw [h0] at e
    have e2 : q = g := by simpa [Value.ownBlock] using e
    rw [← e2, hh] at hk
    simp at hk
theorem LimC.rbs (h : LimC w base x tg N M n rs bs es gs R st now) : rs.ownBlock = none ∨ rs.ownBlock ≠ bs.ownBlock := rows_apart h.rules h.row (by decide)
theorem LimC.tlt (h : LimC w base x tg N M n rs bs es gs R st now) {k : Nat} (hk : isNode N k) : k < w.heap.size := by
  obtain ⟨p, a, ha, rfl⟩ := hk
  exact (h.trie.shape p a ha).lt
/-- Put. -/
theorem LimC.put (h : LimC w base x tg N M n rs bs es gs R st now) {key : List Nat} {v : Int} (hp : PutEnd tg N M key v n w w') (hf : (M key).isSome = false) (hbase : base ≤ w.heap.size) :
    (∃ N', LimC w' base x tg N' (upd M key v) (n + 1) rs bs es gs R st now ∧ ∀ k, isNode N' k → isNode N k ∨ w.heap.size ≤ k) ∧ Below base w w' ∧ ∀ g e m a b, bktAt w g e m a b → ¬ isNode N g → bktAt w' g e m a b := by
  obtain ⟨N', hT, hk, hfar⟩ := hp
  rw [hf, if_neg (by simp)] at hT
  have hold : ∀ k, k < w.heap.size → ¬ isNode N k → w'.heap[k]? = w.heap[k]? := fun k h1 h2 => hk.block k h1 h2
  have hkl : ∀ k, isNode N' k → base ≤ k ∧ k ≠ x ∧ k ∉ gs ∧ rs.ownBlock ≠ some k ∧ bs.ownBlock ≠ some k := by
    intro k hk'
    rcases hfar k hk' with h1 | h1
    · exact h.node k h1
    · refine ⟨by omega, ?_, ?_, ?_, ?_⟩
      · have := lt_of_blk h.lim; omega
      · intro hg
        obtain ⟨_, _, _, _, hb⟩ := h.bkt hg
        have := lt_of_blk hb
        omega
      · intro e
        have := (World.ownsRow.lt h.rules k e).2
        omega
      · intro e
        have := (h.row.lt k e).2
        omega
  refine ⟨⟨N', ⟨?_, hT, ?_, ?_, ?_, h.dist, h.hx, h.hgs, hkl⟩, hfar⟩, ⟨hk.os, hk.tape, hk.output, hk.size, fun k h1 => hold k (by omega) (fun hn => by have := (h.node k hn).1; omega)⟩, ?_⟩
  · have h1 := h.lim
    unfold limAt at h1 ⊢
    rw [hold x (lt_of_blk h1) (fun hn => (h.node x hn).2.1 rfl)]
    exact h1
  · refine ⟨h.rules.1, h.rules.2.imp id ?_⟩
    rintro ⟨g, cap, cur, h1, h2, h3, h4⟩
    refine ⟨g, cap, cur, h1, h2, ?_, h4⟩
    rw [hold g (lt_of_blk h3) (fun hn => (h.node g hn).2.2.2.1 (by rw [h1]; rfl))]
    exact h3
  · refine ⟨h.row.1, h.row.2.imp id ?_⟩
    rintro ⟨g, cap, cur, h1, h2, h3, h4⟩
    refine ⟨g, cap, cur, h1, h2, ?_, h4⟩
    rw [hold g (lt_of_blk h3) (fun hn => (h.node g hn).2.2.2.2 (by rw [h1]; rfl))]
    exact h3
  · exact h.bks_on fun g hg => by
      obtain ⟨_, _, _, _, hb⟩ := h.bkt hg
      exact hold g (lt_of_blk hb) (fun hn => (h.node g hn).2.2.1 hg)
  · intro g e m a b hb hn
    unfold bktAt at hb ⊢
    rw [hold g (lt_of_blk hb) hn]
    exact hb
/-- A rule is appended and the new row stored. -/
theorem LimC.rule (h : LimC w base x tg N M n rs bs es gs R st now) {rs' : Value} {es' : List Rul} (ho : OwnRul w' base rs' es') (hg : Grew w rs w' rs') (hbase : base ≤ w.heap.size) :
    LimC (w'.setCell ⟨x, 1, none⟩ rs') base x tg N M n rs' bs es' gs R st now ∧ Below base w (w'.setCell ⟨x, 1, none⟩ rs') ∧ limAt w' x tg rs bs now ∧ ∀ g e m a b, bktAt w g e m a b → rs.ownBlock ≠ some g → bktAt (w'.setCell ⟨x, 1, none⟩ rs') g e m a b := by
  have hlx := lt_of_blk h.lim
  have hl' : limAt w' x tg rs bs now := by
    have h1 := h.lim
    unfold limAt at h1 ⊢
    rw [hg.grown.block x hlx (fun e => h.rsx e.symm)]
    exact h1
  have hset : (w'.setCell ⟨x, 1, none⟩ rs').heap[x]? = some (.cells #[.pointer (some ⟨tg, 0, none⟩), rs', bs, .int .i64 now] 47 (0, 0)) := by
    have h1 := hl'
    unfold limAt at h1
    exact blk_set h1 1 rs'
  have hgx : w'.grownBy (w'.setCell ⟨x, 1, none⟩ rs') (some x) := grown_set (grown_refl _ _) rfl _
  have hx' : rs'.ownBlock ≠ some x := by
    rcases hg.moved with e | ⟨k, e, hk⟩
    · rw [e]; exact h.rsx
    · rw [e]; intro e2; cases e2; omega
  have hold : ∀ k, k < w.heap.size → k ≠ x → rs.ownBlock ≠ some k → (w'.setCell ⟨x, 1, none⟩ rs').heap[k]? = w.heap[k]? := fun k h1 h2 h3 =>
    (hgx.block k (Nat.lt_of_lt_of_le h1 hg.grown.size) (fun e => h2 (by cases e; rfl))).trans (hg.grown.block k h1 (fun e => h3 e.symm))
  refine ⟨⟨hset, ?_, World.ownsRow.kept ho hgx (.inr hx'), ?_, ?_, h.dist, h.hx, h.hgs, ?_⟩, ?_, hl', ?_⟩
  · exact h.trie.on fun k hk => hold k (h.tlt hk) (h.node k hk).2.1 (h.node k hk).2.2.2.1
  · refine ⟨h.row.1, h.row.2.imp id ?_⟩
    rintro ⟨g, cap, cur, h1, h2, h3, h4⟩
    refine ⟨g, cap, cur, h1, h2, ?_, h4⟩
    have hob : bs.ownBlock = some g := by rw [h1]; rfl
    rw [hold g (lt_of_blk h3) (fun e => h.bsx (by rw [hob, e])) (fun e => by rcases h.rbs with h5 | h5; rw [h5] at e; cases e; exact h5 (by rw [hob, e]))]
    exact h3
  · exact h.bks_on fun g hg' => by
      obtain ⟨_, _, _, _, hb⟩ := h.bkt hg'
      exact hold g (lt_of_blk hb) (fun e => h.gsx (e ▸ hg')) (h.gsr hg')
  · intro k hk
    obtain ⟨h1, h2, h3, h4, h5⟩ := h.node k hk
    refine ⟨h1, h2, h3, ?_, h5⟩
    rcases hg.moved with e | ⟨j, e, hj⟩
    · rw [e]; exact h4
    · rw [e]; intro e2; cases e2; have := h.tlt hk; omega
  · refine ⟨hgx.os.trans hg.grown.os, hgx.tape.trans hg.grown.tape, hgx.output.trans hg.grown.output, Nat.le_trans hg.grown.size hgx.size, fun k hk => hold k (by omega) (by have := h.hx; omega) (fun e => ?_)⟩
    have := (World.ownsRow.lt h.rules k e).1
    omega
  · intro g e m a b hb hn
    have hgx2 : g ≠ x := by
      rintro rfl
      have h1 := h.lim
      unfold limAt at h1
      unfold bktAt at hb
      rw [hb] at h1
      simp at h1
    unfold bktAt at hb ⊢
    rw [hold g (lt_of_blk hb) hgx2 hn]
    exact hb
/-- A bucket is appended and the new row stored. -/
theorem LimC.bucket (h : LimC w base x tg N M n rs bs es gs R st now) {bs' : Value} {g : Nat} (ho : OwnBk w' base bs' (gs ++ [g])) (hg : Grew w bs w' bs') (hbase : base ≤ w.heap.size)
    {r : Rul} (hr : R[gs.length]? = some r) (hb : bktAt w g r.e r.m (st gs.length).1 (st gs.length).2) (hgg : base ≤ g) (hgn : g ∉ gs) (hgN : ¬ isNode N g) :
    LimC (w'.setCell ⟨x, 2, none⟩ bs') base x tg N M n rs bs' es (gs ++ [g]) R st now ∧ Below base w (w'.setCell ⟨x, 2, none⟩ bs') ∧ limAt w' x tg rs bs now := by
  have hlx := lt_of_blk h.lim
  have hl' : limAt w' x tg rs bs now := by
    have h1 := h.lim
    unfold limAt at h1 ⊢
    rw [hg.grown.block x hlx (fun e => h.bsx e.symm)]
    exact h1
  have hset : (w'.setCell ⟨x, 2, none⟩ bs').heap[x]? = some (.cells #[.pointer (some ⟨tg, 0, none⟩), rs, bs', .int .i64 now] 47 (0, 0)) := by
    have h1 := hl'
    unfold limAt at h1
    exact blk_set h1 2 bs'
  have hgx : w'.grownBy (w'.setCell ⟨x, 2, none⟩ bs') (some x) := grown_set (grown_refl _ _) rfl _
  have hx' : bs'.ownBlock ≠ some x := by
    rcases hg.moved with e | ⟨k, e, hk⟩
    · rw [e]; exact h.bsx
    · rw [e]; intro e2; cases e2; omega
  have hold : ∀ k, k < w.heap.size → k ≠ x → bs.ownBlock ≠ some k → (w'.setCell ⟨x, 2, none⟩ bs').heap[k]? = w.heap[k]? := fun k h1 h2 h3 =>
    (hgx.block k (Nat.lt_of_lt_of_le h1 hg.grown.size) (fun e => h2 (by cases e; rfl))).trans (hg.grown.block k h1 (fun e => h3 e.symm))
  have hgx2 : g ≠ x := by
    rintro rfl
    have h1 := h.lim
    unfold limAt at h1
    unfold bktAt at hb
    rw [hb] at h1
    simp at h1
  have hgb : bs.ownBlock ≠ some g := by
    intro e
    unfold bktAt at hb
    rcases h.row.2 with ⟨h0, _⟩ | ⟨q, cap, cur, h0, _, hh, _⟩
    · rw [h0] at e; cases e
    · rw [h0] at e
      have e2 : q = g := by simpa [Value.ownBlock] using e
      rw [← e2, hh] at hb
      simp at hb
  refine ⟨⟨hset, ?_, ?_, World.ownsRow.kept ho hgx (.inr hx'), ?_, ?_, h.hx, ?_, ?_⟩, ?_, hl'⟩
  · exact h.trie.on fun k hk => hold k (h.tlt hk) (h.node k hk).2.1 (h.node k hk).2.2.2.2
  · refine ⟨h.rules.1, h.rules.2.imp id ?_⟩
    rintro ⟨q, cap, cur, h1, h2, h3, h4⟩
    refine ⟨q, cap, cur, h1, h2, ?_, h4⟩
    have hob : rs.ownBlock = some q := by rw [h1]; rfl
    rw [hold q (lt_of_blk h3) (fun e => h.rsx (by rw [hob, e])) (fun e => by rcases h.rbs with h5 | h5; rw [h5] at hob; cases hob; exact h5 (by rw [hob, e]))]
    exact h3
  · intro k q hk
    rcases Nat.lt_or_ge k gs.length with hlt | hge
    · rw [List.getElem?_append_left hlt] at hk
      obtain ⟨r', hr', hb'⟩ := h.bks k q hk
      refine ⟨r', hr', ?_⟩
      unfold bktAt at hb' ⊢
      rw [hold q (lt_of_blk hb') (fun e => h.gsx (e ▸ List.mem_of_getElem? hk)) (h.gsb (List.mem_of_getElem? hk))]
      exact hb'
    · rw [List.getElem?_append_right hge] at hk
      have hk0 : k = gs.length := by
        rcases Nat.eq_zero_or_pos (k - gs.length) with h0 | h0
        · omega
        · rw [List.getElem?_eq_none (by simp; omega)] at hk
          cases hk
      subst hk0
      rw [Nat.sub_self] at hk
      obtain rfl : g = q := by simpa using hk
      refine ⟨r, hr, ?_⟩
      unfold bktAt at hb ⊢
      rw [hold g (lt_of_blk hb) hgx2 hgb]
      exact hb
  · intro i j q hi hj
    have key : ∀ k, (gs ++ [g])[k]? = some q → (k < gs.length ∧ gs[k]? = some q) ∨ (k = gs.length ∧ q = g) := by
      intro k hk
      rcases Nat.lt_or_ge k gs.length with hlt | hge
      · rw [List.getElem?_append_left hlt] at hk
        exact .inl ⟨hlt, hk⟩
      · right
        rw [List.getElem?_append_right hge] at hk
        rcases Nat.eq_zero_or_pos (k - gs.length) with h0 | h0
        · rw [h0] at hk
          exact ⟨by omega, by simpa using hk.symm⟩
        · rw [List.getElem?_eq_none (by simp; omega)] at hk
          cases hk
    rcases key i hi with ⟨_, h1⟩ | ⟨h1, h2⟩
    · rcases key j hj with ⟨_, h3⟩ | ⟨h3, h4⟩
      · exact h.dist i j q h1 h3
      · exact absurd (h4 ▸ List.mem_of_getElem? h1) hgn
    · rcases key j hj with ⟨_, h3⟩ | ⟨h3, h4⟩
      · exact absurd (h2 ▸ List.mem_of_getElem? h3) hgn
      · omega
  · intro q hq
    rcases List.mem_append.1 hq with hq | hq
    · exact h.hgs q hq
    · obtain rfl := List.mem_singleton.1 hq
      exact hgg
  · intro k hk
    obtain ⟨h1, h2, h3, h4, h5⟩ := h.node k hk
    refine ⟨h1, h2, ?_, h4, ?_⟩
    · intro hm
      rcases List.mem_append.1 hm with hq | hq
      · exact h3 hq
      · obtain rfl := List.mem_singleton.1 hq
        exact hgN hk
    · rcases hg.moved with e | ⟨j, e, hj⟩
      · rw [e]; exact h5
      · rw [e]; intro e2; cases e2; have := h.tlt hk; omega
  · refine ⟨hgx.os.trans hg.grown.os, hgx.tape.trans hg.grown.tape, hgx.output.trans hg.grown.output, Nat.le_trans hg.grown.size hgx.size, fun k hk => hold k (by omega) (by have := h.hx; omega) (fun e => ?_)⟩
    have := (h.row.lt k e).1
    omega
end
end Addr05
end Go.Proofs.YtbcicbiphgeghaaDoor
/- law45: few, under. Conditions: numbers of 64 bits. -/
namespace Go.Proofs.YtbcicbiphgeghaaDoor
open Go.RowKit Go.ChangeShapes Go.WideShapes Go.ChangeAt Go.Deep
namespace Addr05
theorem rulC_len (r : Rul) : (rulC r).length = 6 := rfl
set_option maxRecDepth 20000 in
set_option maxHeartbeats 8000000 in
theorem few_any (n c : Nat) (A : Option Addr) (es : List Rul) (w : World) (hx : IsT rulC 6 w w.heap.size A n es) (hnc : n ≤ c) (hcm : c ≤ maxLen) :
    Calls Tryd.prog 13 #[.slice A n c] w fun r w' => (∃ A' n', r = .returned (.slice A' n' c) ∧ IsT rulC 6 w w.heap.size A' n' (es.take 20) ∧ n' ≤ 20 ∧ n' ≤ c) ∧ w' = w := by
  have hl := hx.1
  by_cases h20 : 20 < n
  · have t1 : decide ((20 : Int) < (n : Int)) = true := by rw [decide_eq_true_eq]; omega
    have i1 : (20 : Int) ≤ (c : Int) := by omega
    obtain ⟨b, off, x, rfl, -⟩ := hx.at rulC_len (by omega) (show 0 < n by omega)
    have ht := hx.take rulC_len (show 20 ≤ n by omega)
    clear hx
    replace ht := hide ht
    go_enter Tryd.func13, Tryd.ntmps13
    go_wp2_with fail
    go_ret
    exact ⟨⟨_, 20, rfl, ht.out, by omega, by omega⟩, rfl⟩
  · have t1 : decide ((20 : Int) < (n : Int)) = false := by rw [decide_eq_false_iff_not]; omega
    have ht : es.take 20 = es := List.take_of_length_le (by omega)
    rw [ht]
    clear ht
    replace hx := hide hx
    go_enter Tryd.func13, Tryd.ntmps13
    go_wp2_with fail
    go_ret
    exact ⟨⟨_, n, rfl, hx.out, by omega, hnc⟩, rfl⟩
/-- The better of a place and place i, whose prefix has k bits. -/
def uStep (es : List Rul) (k : Int) (i : Nat) (o : Option Nat) : Option Nat := match o with
  | none => some i
  | some b => if ((es[b]?.map (·.i)).getD 0) < k then some i else some b
/-- The place of the longest of the first i rules that have an address; the first of equals. -/
def uAt (es : List Rul) (a : Adr) : Nat → Option Nat
  | 0 => none
  | i + 1 => match es[i]? with
    | some r => if hasP r.p r.i a = true then uStep es r.i i (uAt es a i) else uAt es a i
    | none => uAt es a i
/-- The same as a number, or -1. -/
def uL (r : Option Nat) : Int := match r with | none => -1 | some k => (k : Int)
theorem uStep_lt (es : List Rul) (k : Int) (i : Nat) (o : Option Nat) (ho : ∀ b, o = some b → b < i) (b : Nat) (h : uStep es k i o = some b) : b < i + 1 := by
  unfold uStep at h
  split at h
  · cases h; omega
  · have := ho _ rfl
    split at h <;> cases h <;> omega
theorem uAt_lt (es : List Rul) (a : Adr) : ∀ i b, uAt es a i = some b → b < i
  | 0, b, h => by simp [uAt] at h
  | i + 1, b, h => by
    have ih := uAt_lt es a i
    unfold uAt at h
    split at h
    · split at h
      · exact uStep_lt es _ i _ ih b h
      · have := ih _ h; omega
    · have := ih _ h; omega
theorem uAt_succ (es : List Rul) (a : Adr) (i : Nat) (r : Rul) (h : es[i]? = some r) : uAt es a (i + 1) = if hasP r.p r.i a = true then uStep es r.i i (uAt es a i) else uAt es a i := by
  rw [uAt, h]
end Addr05
end Go.Proofs.YtbcicbiphgeghaaDoor
