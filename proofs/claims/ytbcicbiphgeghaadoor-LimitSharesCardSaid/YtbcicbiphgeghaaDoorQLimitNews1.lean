/- The walk of AddrParses: it answers true. Condition: the cell of bytealg.MaxLen. -/
import Derived.Test.YtbcicbiphgeghaaDoorQLimitFull8
import Derived.Test.YtbcicbiphgeghaaDoorQLimitFull2
import Derived.Test.YtbcicbiphgeghaaDoorQLimitFull3
import Derived.Test.YtbcicbiphgeghaaDoorQLimitFull11
import Derived.Test.YtbcicbiphgeghaaDoorQLimitFull14
import Derived.Test.YtbcicbiphgeghaaDoorQLimitFull12
namespace Go.Proofs.YtbcicbiphgeghaaDoor
open Go.RowKit Go.ChangeShapes Go.WideShapes Go.ChangeAt Go.Deep
namespace Addr05
theorem str_extract (s : List UInt8) (a b : Nat) : (str s).extract a b = str ((s.take b).drop a) := by
  apply ByteArray.ext
  apply Array.ext'
  simp [str, List.drop_take]
theorem u64_nat {i : Int} (h : (Lit.int .u64 i).wf = true) : ∃ n : Nat, i = (n : Int) ∧ n < 18446744073709551616 := by
  have h2 := u64_wf h
  exact ⟨i.toNat, by omega, by omega⟩
theorem str_data (s : ByteArray) : str s.data.toList = s := by
  apply ByteArray.ext
  rfl
end Addr05
end Go.Proofs.YtbcicbiphgeghaaDoor
/- pfx: a slice of prefixes with values, as it is opened. No condition. -/
namespace Go.Proofs.YtbcicbiphgeghaaDoor
open Go.RowKit Go.ChangeShapes Go.WideShapes Go.ChangeAt Go.Deep
namespace Addr05
def putC (e : PutE) : List Value := [.bool e.p.v6, .int .u64 (e.p.hi : Int), .int .u64 (e.p.lo : Int), .int .i64 e.i, .int .i64 e.v]
def PutE.ok (e : PutE) : Prop := e.p.ok ∧ (-9223372036854775808 ≤ e.i ∧ e.i ≤ 9223372036854775807) ∧ (-9223372036854775808 ≤ e.v ∧ e.v ≤ 9223372036854775807)
section
variable {H : Type} {enc : TypeId × Value → H} {w : World} {spare : Nat → Bool} {held : Bool}
theorem open_u64n {m : Nat} {v : Value} {y : DataW H × List MemPlace} (h : DataW.trod enc Tryd.prog w 0 spare held m 24 [v] = some y) : ∃ n : Nat, v = .int .u64 (n : Int) ∧ n < 18446744073709551616 := by
  obtain ⟨n, e, _, hw⟩ := DataW.trod_int Tryd.underlying24 h
  cases e
  obtain ⟨k, rfl, hk⟩ := u64_nat hw
  exact ⟨k, rfl, hk⟩
end
end Addr05
end Go.Proofs.YtbcicbiphgeghaaDoor
/- limit: Rules, Len, Have. No condition. -/
namespace Go.Proofs.YtbcicbiphgeghaaDoor
open Go.RowKit Go.ChangeShapes Go.WideShapes Go.ChangeAt Go.Deep
namespace Addr05
set_option maxRecDepth 20000 in
set_option maxHeartbeats 8000000 in
theorem lRules_any (w : World) (base x tg : Nat) (N : Nodes) (M : Keys) (n : Int) (rs bs : Value) (es : List Rul) (gs : List Nat) (R : List Rul) (st : Nat → Int × Int) (now : Int) (h : LimC w base x tg N M n rs bs es gs R st now) (hel : es.length ≤ 1099511627776) :
    Calls Tryd.prog 19 #[.pointer (some ⟨x, 0, none⟩)] w fun r w' => ∃ v, r = .returned v ∧ OwnRul w' w.heap.size v es ∧ Below w.heap.size w w' := by
  have q1 := lnone_any x tg rs bs now w h.lim
  obtain ⟨A, c, rfl, -, -, hv⟩ := own_isv h.rules
  have c1 := blk_cell h.lim 1
  obtain ⟨L, hL⟩ : ∃ L, es.length = L := ⟨_, rfl⟩
  rw [hL] at c1 hv hel
  clear h
  replace q1 := hide q1
  replace hv := hide hv
  replace hL := hide hL
  go_enter Tryd.func19, Tryd.ntmps19
  go_wp2_with fail
  refine (q1.out).mono ?_
  rintro e w2 ⟨rfl, rfl⟩
  clear q1
  go_upto_region 3 with fail
  apply wp_region_lit
  iterate 4 (refine wpList_plain rfl fun K hK => ?_; go_simp; refine hK _ _ ?_; clear hK K)
  refine wpList_plain rfl fun K hK => ?_
  refine wp_app_rul (.const (.slice none 0 0)) (.tmp 8) rfl w2.heap.size _ [] es A L c w2.heap.size rfl rfl (World.ownsRow_nil _ _ _ _) ⟨hL.out, hv.out⟩ (Nat.le_refl _) (by simp; omega) fun v' w' h1 h2 => ?_
  rw [List.nil_append] at h1
  have hb := below_of_grown h2.grown (Nat.le_refl _) (fun k hk => by cases hk)
  obtain ⟨A3, c3, rfl, -, -, -⟩ := own_isv h1
  rw [hL.out]
  refine hK _ _ ?_
  clear hK K c1 h2
  replace h1 := hide h1
  replace hb := hide hb
  iterate 1 (refine wpList_plain rfl fun K hK => ?_; go_simp; refine hK _ _ ?_; clear hK K)
  refine wpList_nil ?_
  go_simp
  go_wp2_with fail
  go_ret
  refine ⟨.slice A3 L c3, rfl, ?_, hb.out⟩
  have h := h1.out
  rw [hL.out] at h
  exact h
/-- What a bucket has. -/
theorem lHave_is (w : World) (base x tg : Nat) (N : Nodes) (M : Keys) (n : Int) (rs bs : Value) (es : List Rul) (gs : List Nat) (H : Nat → Int) (now : Int) (h : LimC w base x tg N M n rs bs es gs es (fun k => (H k, now)) now) (hgl : gs.length = es.length) (hel : es.length ≤ 1099511627776) (hg : Good es) (j : Nat) (hj : j < es.length) :
    Calls Tryd.prog 20 #[.pointer (some ⟨x, 0, none⟩), .int .i64 (j : Int)] w fun r w' => r = .returned (.int .i64 (H j)) ∧ w' = w := by
  obtain ⟨g, hgj⟩ : ∃ g, gs[j]? = some g := ⟨gs[j]'(by omega), List.getElem?_eq_getElem _⟩
  obtain ⟨q, cap, cs, rfl, hq, hcs⟩ := row_at h.row hgj
  obtain ⟨r, hr, hbk⟩ := h.bks j g hgj
  obtain ⟨-, -, hrr, -⟩ := hg.at hr
  obtain ⟨he0, he, hm0, hm⟩ := (rightR_iff r.e r.m).1 hrr
  exact lHave_some x tg q cap j gs.length g rs cs now r.e r.m (H j) now w h.lim hq hcs (by omega) (by omega) hbk hm0
theorem lHave_no (w : World) (base x tg : Nat) (N : Nodes) (M : Keys) (n : Int) (rs bs : Value) (es : List Rul) (gs : List Nat) (R : List Rul) (st : Nat → Int × Int) (now : Int) (h : LimC w base x tg N M n rs bs es gs R st now) (hgl : gs.length = es.length) (j : Int) (hj : j < 0 ∨ (es.length : Int) ≤ j) :
    Calls Tryd.prog 20 #[.pointer (some ⟨x, 0, none⟩), .int .i64 j] w fun r w' => r = .returned (.int .i64 0) ∧ w' = w := by
  obtain ⟨A, c, rfl, -, -, -⟩ := own_isv h.row
  exact lHave_out x tg gs.length A c rs now j (by rw [hgl]; exact hj) w h.lim
end Addr05
end Go.Proofs.YtbcicbiphgeghaaDoor
/- limit: slices of rules, of addresses and of calls, as they are opened. No condition. -/
namespace Go.Proofs.YtbcicbiphgeghaaDoor
open Go.RowKit Go.ChangeShapes Go.WideShapes Go.ChangeAt Go.Deep
namespace Addr05
theorem leafsRul : leafsOf Tryd.prog 5 32 0 = some [(4, 0), (24, 1), (24, 2), (3, 3), (2, 4), (2, 5)] := by kernel_rfl
theorem cellsRul : Tryd.prog.cellsOf 32 = 6 := by kernel_rfl
theorem leafsAdr : leafsOf Tryd.prog 5 26 0 = some [(4, 0), (24, 1), (24, 2)] := by kernel_rfl
theorem cellsAdr : Tryd.prog.cellsOf 26 = 3 := by kernel_rfl
/-- An address's cells. -/
def adrC (a : Adr) : List Value := [.bool a.v6, .int .u64 (a.hi : Int), .int .u64 (a.lo : Int)]
/-- A call of the law. -/
structure LOp where
  k : Int
  a : Adr
  n : Int
def opC (o : LOp) : List Value := [.int .i64 o.k, .bool o.a.v6, .int .u64 (o.a.hi : Int), .int .u64 (o.a.lo : Int), .int .i64 o.n]
def LOp.ok (o : LOp) : Prop := o.a.ok ∧ (-9223372036854775808 ≤ o.k ∧ o.k ≤ 9223372036854775807) ∧ (-9223372036854775808 ≤ o.n ∧ o.n ≤ 9223372036854775807)
theorem leafsOp : leafsOf Tryd.prog 5 56 0 = some [(3, 0), (4, 1), (24, 2), (24, 3), (2, 4)] := by kernel_rfl
theorem cellsOp : Tryd.prog.cellsOf 56 = 5 := by kernel_rfl
section
variable {H : Type} {enc : TypeId × Value → H} {w : World} {spare : Nat → Bool} {held : Bool}
theorem open_i64b {m : Nat} {v : Value} {y : DataW H × List MemPlace} (h : DataW.trod enc Tryd.prog w 0 spare held m 2 [v] = some y) : ∃ i : Int, v = .int .i64 i ∧ (Lit.int .i64 i).wf = true := by
  obtain ⟨n, e, _, hw⟩ := DataW.trod_int Tryd.underlying2 h
  cases e
  exact ⟨n, rfl, hw⟩
theorem open_rules {m : Nat} {v : Value} {y : DataW H × List MemPlace} (h : DataW.trod enc Tryd.prog w 0 spare held m 23 [v] = some y) :
    ∃ A n c es, v = .slice A n c ∧ (IsT rulC 6 w w.heap.size A n es ∧ ∀ x ∈ es, Rul.ok x) ∧ n ≤ c ∧ c ≤ maxLen :=
  open_structs Rul.ok Tryd.underlying23 cellsRul (by omega) (fun n cs y h hcl => by
    have hlf := trod_leafs cs 5 32 0 _ n y leafsRul (by rw [cellsRul, List.drop_zero, List.take_of_length_le (by omega)]; exact h)
    match cs, hcl with
    | [a, b, c, d, e, f], _ =>
      obtain ⟨_, _, t0⟩ := hlf 4 0 (by simp)
      obtain ⟨_, _, t1⟩ := hlf 24 1 (by simp)
      obtain ⟨_, _, t2⟩ := hlf 24 2 (by simp)
      obtain ⟨_, _, t3⟩ := hlf 3 3 (by simp)
      obtain ⟨_, _, t4⟩ := hlf 2 4 (by simp)
      obtain ⟨_, _, t5⟩ := hlf 2 5 (by simp)
      simp only [List.drop_succ_cons, List.drop_zero, List.take_succ_cons, List.take_zero] at t0 t1 t2 t3 t4 t5
      obtain ⟨v6, rfl⟩ := open_bool' t0
      obtain ⟨hi, rfl, h1⟩ := open_u64n t1
      obtain ⟨lo, rfl, h2⟩ := open_u64n t2
      obtain ⟨i, rfl, h3⟩ := open_i64 t3
      obtain ⟨u, rfl, h4⟩ := open_i64b t4
      obtain ⟨z, rfl, h5⟩ := open_i64b t5
      exact ⟨⟨⟨v6, hi, lo⟩, i, u, z⟩, rfl, ⟨h1, h2⟩, i64_wf h3, i64_wf h4, i64_wf h5⟩) h
theorem open_adrs {m : Nat} {v : Value} {y : DataW H × List MemPlace} (h : DataW.trod enc Tryd.prog w 0 spare held m 64 [v] = some y) :
    ∃ A n c es, v = .slice A n c ∧ (IsT adrC 3 w w.heap.size A n es ∧ ∀ x ∈ es, Adr.ok x) ∧ n ≤ c ∧ c ≤ maxLen :=
  open_structs Adr.ok Tryd.underlying64 cellsAdr (by omega) (fun n cs y h hcl => by
    have hlf := trod_leafs cs 5 26 0 _ n y leafsAdr (by rw [cellsAdr, List.drop_zero, List.take_of_length_le (by omega)]; exact h)
    match cs, hcl with
    | [a, b, c], _ =>
      obtain ⟨_, _, t0⟩ := hlf 4 0 (by simp)
      obtain ⟨_, _, t1⟩ := hlf 24 1 (by simp)
      obtain ⟨_, _, t2⟩ := hlf 24 2 (by simp)
      simp only [List.drop_succ_cons, List.drop_zero, List.take_succ_cons, List.take_zero] at t0 t1 t2
      obtain ⟨v6, rfl⟩ := open_bool' t0
      obtain ⟨hi, rfl, h1⟩ := open_u64n t1
      obtain ⟨lo, rfl, h2⟩ := open_u64n t2
      exact ⟨⟨v6, hi, lo⟩, rfl, ⟨h1, h2⟩⟩) h
theorem open_lops {m : Nat} {v : Value} {y : DataW H × List MemPlace} (h : DataW.trod enc Tryd.prog w 0 spare held m 51 [v] = some y) :
    ∃ A n c es, v = .slice A n c ∧ (IsT opC 5 w w.heap.size A n es ∧ ∀ x ∈ es, LOp.ok x) ∧ n ≤ c ∧ c ≤ maxLen :=
  open_structs LOp.ok Tryd.underlying51 cellsOp (by omega) (fun n cs y h hcl => by
    have hlf := trod_leafs cs 5 56 0 _ n y leafsOp (by rw [cellsOp, List.drop_zero, List.take_of_length_le (by omega)]; exact h)
    match cs, hcl with
    | [a, b, c, d, e], _ =>
      obtain ⟨_, _, t0⟩ := hlf 3 0 (by simp)
      obtain ⟨_, _, t1⟩ := hlf 4 1 (by simp)
      obtain ⟨_, _, t2⟩ := hlf 24 2 (by simp)
      obtain ⟨_, _, t3⟩ := hlf 24 3 (by simp)
      obtain ⟨_, _, t4⟩ := hlf 2 4 (by simp)
      simp only [List.drop_succ_cons, List.drop_zero, List.take_succ_cons, List.take_zero] at t0 t1 t2 t3 t4
      obtain ⟨k, rfl, h3⟩ := open_i64 t0
      obtain ⟨v6, rfl⟩ := open_bool' t1
      obtain ⟨hi, rfl, h1⟩ := open_u64n t2
      obtain ⟨lo, rfl, h2⟩ := open_u64n t3
      obtain ⟨u, rfl, h4⟩ := open_i64b t4
      exact ⟨⟨k, ⟨v6, hi, lo⟩, u⟩, rfl, ⟨h1, h2⟩, i64_wf h3, i64_wf h4⟩) h
end
end Addr05
end Go.Proofs.YtbcicbiphgeghaaDoor
/- The walk of LimitNews: it answers true. Condition: the cell of bytealg.MaxLen. -/
namespace Go.Proofs.YtbcicbiphgeghaaDoor
open Go.RowKit Go.ChangeShapes Go.WideShapes Go.ChangeAt Go.Deep
namespace Addr05
theorem NewEnd.split {es : List Rul} {w w' : World} {e : Ending} (h : NewEnd es w w' e) : Below w.heap.size w w' ∧ ∃ X5 X6 X7, e = .returned (.tuple #[X5, X6, X7]) ∧
    (∀ (i : Nat) (r : Rul), es[i]? = some r → badC es i r ≠ 0 → (∀ (j : Nat) (r' : Rul), j < i → es[j]? = some r' → badC es j r' = 0) → X5 = .pointer none ∧ X6 = .int .i64 (i : Int) ∧ X7 = .int .i64 (badC es i r)) ∧
    (Good es → ∃ x tg N rs bs gs, X5 = .pointer (some ⟨x, 0, none⟩) ∧ X6 = .int .i64 0 ∧ X7 = .int .i64 0 ∧ LimC w' w.heap.size x tg N (keysOf (putsR es)) (es.length : Int) rs bs es gs es (fun k => (HF es k, 0)) 0 ∧ gs.length = es.length) := by
  obtain ⟨hb, h | h⟩ := h
  · obtain ⟨i, r, hr, hne, hall, rfl⟩ := h
    refine ⟨hb, _, _, _, rfl, ?_, fun hg => absurd (hg i r hr) hne⟩
    intro j r' hr' hne' hall'
    have hij : i = j := by
      rcases Nat.lt_trichotomy i j with h | h | h
      · exact absurd (hall' i r h hr) hne
      · exact h
      · exact absurd (hall j r' h hr') hne'
    subst hij
    obtain rfl := Option.some.inj (hr.symm.trans hr')
    exact ⟨rfl, rfl, rfl⟩
  · obtain ⟨hg, x, tg, N, rs, bs, gs, rfl, hL, hgl⟩ := h
    refine ⟨hb, _, _, _, rfl, fun i r hr hne => absurd (hg i r hr) hne, fun _ => ⟨x, tg, N, rs, bs, gs, rfl, rfl, rfl, hL, hgl⟩⟩
section
variable {es : List Rul} {i : Nat} {r : Rul}
theorem bad18 (hi : i < 256) (h : rightP r.p r.i = false) : badC es i r = 18 := by unfold badC; rw [if_neg (by omega), if_pos h]
theorem bad5 (hi : i < 256) (h : rightP r.p r.i = true) (h2 : rightR r.e r.m = false) : badC es i r = 5 := by unfold badC; rw [if_neg (by omega), if_neg (by rw [h]; simp), if_pos h2]
theorem bad8 (hi : i < 256) (h : rightP r.p r.i = true) (h2 : rightR r.e r.m = true) {k : Nat} {r' : Rul} (hk : k < i) (hr : es[k]? = some r') (hm : r'.p = r.p ∧ r'.i = r.i) : badC es i r = 8 := by
  unfold badC
  rw [if_neg (by omega), if_neg (by rw [h]; simp), if_neg (by rw [h2]; simp), if_pos]
  unfold atL
  split
  · omega
  · rename_i hn
    have := List.findIdx?_eq_none_iff.1 hn r' (List.mem_of_getElem? (i := k) (by rw [List.getElem?_take, if_pos hk, hr]))
    exact absurd hm (of_decide_eq_false this)
theorem bad0 (hi : i < 256) (h : rightP r.p r.i = true) (h2 : rightR r.e r.m = true) (hn : ∀ (j : Nat) (r' : Rul), j < i → es[j]? = some r' → ¬ (r'.p = r.p ∧ r'.i = r.i)) : badC es i r = 0 := by
  unfold badC
  rw [if_neg (by omega), if_neg (by rw [h]; simp), if_neg (by rw [h2]; simp), if_neg]
  unfold atL
  rw [List.findIdx?_eq_none_iff.2]
  · decide
  · intro x hx
    obtain ⟨k, hk⟩ := List.mem_iff_getElem?.1 hx
    rw [List.getElem?_take] at hk
    split at hk
    · exact decide_eq_false (hn k x (by assumption) hk)
    · cases hk
end
set_option maxRecDepth 20000 in
set_option maxHeartbeats 8000000 in
theorem lnews_walk (A : Option Addr) (n c : Nat) (es : List Rul) (a : Adr) (ha : a.ok) (w : World) (hx : IsT rulC 6 w w.heap.size A n es) (hok : ∀ r ∈ es, r.ok) (hnc : n ≤ c) (hcm : c ≤ maxLen) (hm : MaxAt w) :
    Calls Tryd.prog 4 #[.slice A n c, .agg #[.bool a.v6, .int .u64 (a.hi : Int), .int .u64 (a.lo : Int)]] w fun e w' => e = .returned (.bool true) ∧ Below w.heap.size w w' := by
  have hA := fun w => lawake_any w
  obtain ⟨w1, hw1⟩ : ∃ w1, w.alloc (.cells #[.bool a.v6, .int .u64 (a.hi : Int), .int .u64 (a.lo : Int)] 26) = w1 := ⟨_, rfl⟩
  have hB1 : Below w.heap.size w w1 := hw1 ▸ (Below.refl _ _).alloc (Nat.le_refl _) _
  have hg1 : w1.heap[w.heap.size]? = some (.cells #[.bool a.v6, .int .u64 (a.hi : Int), .int .u64 (a.lo : Int)] 26 (0, 0)) := hw1 ▸ blk_new _ _ _
  have hz1 : w.heap.size < w1.heap.size := by rw [← hw1]; simp
  have hx1 := hx.on hB1
  have hm1 := hm.below hB1
  have qf := few_any n c A es w1 hx1 hnc hcm
  clear hx hm
  replace hA := hide hA
  replace hB1 := hide hB1
  replace hg1 := hide hg1
  replace hx1 := hide hx1
  replace hm1 := hide hm1
  replace qf := hide qf
  replace hok := hide hok
  go_enter Tryd.func4, Tryd.ntmps4
  go_upto_region 1 with fail
  clear hw1
  go_wp2_with fail
  refine qf.out.mono ?_
  rintro e w2 ⟨⟨A', m, rfl, hx2, hm20, hmc⟩, rfl⟩
  have hok2 : ∀ r ∈ es.take 20, r.ok := fun r hr => hok.out r (List.mem_of_mem_take hr)
  obtain ⟨ls, hls⟩ : ∃ l, es.take 20 = l := ⟨_, rfl⟩
  rw [hls] at hx2 hok2
  have hN := lNew_any m c A' ls hok2 w2 hx2 (by omega)
  clear qf hx1 hok hls
  replace hx2 := hide hx2
  replace hok2 := hide hok2
  replace hN := hide hN
  go_wp2_with fail
  refine hN.out.mono ?_
  rintro e w3 hE
  obtain ⟨hb3, X5, X6, X7, rfl, hbad, hgood⟩ := hE.split
  have hz3 := hb3.size
  have hx3 := hx2.out.on hb3
  have hg3 := blk_below hb3 hz1 hg1.out
  have hB3 := hB1.out.trans (hb3.mono hB1.out.size)
  have hm3 := hm1.out.below hb3
  have hlen := hx3.1
  clear hN hE hb3 hx2 hg1 hm1
  replace hbad := hide hbad
  replace hgood := hide hgood
  replace hx3 := hide hx3
  replace hg3 := hide hg3
  replace hB3 := hide hB3
  replace hm3 := hide hm3
  go_upto_block 1 with fail
  go_loopw [8, 9, 10] (fun iv _ _ wr => ∃ i : Nat, i ≤ m ∧ iv = .int .i64 (i : Int) ∧ Below w3.heap.size w3 wr ∧ ∀ (j : Nat) (r' : Rul), j < i → ls[j]? = some r' → badC ls j r' = 0) (fun iv _ _ _ => m - (intOf iv).toNat)
  case atStart => exact ⟨0, by omega, rfl, Below.refl _ _, fun j r' hj => by omega⟩
  case round =>
    obtain ⟨i, hi, rfl, hbr, hall⟩ := hrel
    by_cases him : i < m
    · have hlt : (i : Int) < (m : Int) := by omega
      have hzr := hbr.size
      have hxr := hx3.out.below hbr
      obtain ⟨bk, off, r, rfl, hbk, hri, hcell⟩ := hxr.at rulC_len (by omega) him
      have hor := hok2.out r (List.mem_of_getElem? hri)
      have hbkr : bk < wr.heap.size := by omega
      have c0 : wr.cell? ⟨bk, off + i * 6, none⟩ = some (.bool r.p.v6) := hcell 0 _ rfl
      have c1' : wr.cell? ⟨bk, off + i * 6 + 1, none⟩ = some (.int .u64 (r.p.hi : Int)) := hcell 1 _ rfl
      have c2' : wr.cell? ⟨bk, off + i * 6 + 2, none⟩ = some (.int .u64 (r.p.lo : Int)) := hcell 2 _ rfl
      have c3' : wr.cell? ⟨bk, off + i * 6 + 3, none⟩ = some (.int .i64 r.i) := hcell 3 _ rfl
      have c4' : wr.cell? ⟨bk, off + i * 6 + 4, none⟩ = some (.int .i64 r.e) := hcell 4 _ rfl
      have c5' : wr.cell? ⟨bk, off + i * 6 + 5, none⟩ = some (.int .i64 r.m) := hcell 5 _ rfl
      have qR := pRight_any r.p hor.1 r.i wr
      have qr := fun w => rRight_any r.e r.m w
      obtain ⟨BC, hBC⟩ : ∃ b, badC ls i r = b := ⟨_, rfl⟩
      obtain ⟨RP, hRP⟩ : ∃ b, rightP r.p r.i = b := ⟨_, rfl⟩
      obtain ⟨RR, hRR⟩ : ∃ b, rightR r.e r.m = b := ⟨_, rfl⟩
      have hb0 : RP = true → RR = true → (∀ (j : Nat) (r' : Rul), j < i → ls[j]? = some r' → ¬ (r'.p = r.p ∧ r'.i = r.i)) → BC = 0 := fun h1 h2 h3 => by rw [← hBC]; exact bad0 (by omega) (hRP.trans h1) (hRR.trans h2) h3
      have hb8 : RP = true → RR = true → ∀ (k : Nat) (r' : Rul), k < i → ls[k]? = some r' → r'.p = r.p ∧ r'.i = r.i → BC = 8 := fun h1 h2 k r' h3 h4 h5 => by rw [← hBC]; exact bad8 (by omega) (hRP.trans h1) (hRR.trans h2) h3 h4 h5
      have hb18 : RP = false → BC = 18 := fun h1 => by rw [← hBC]; exact bad18 (by omega) (hRP.trans h1)
      have hb5 : RP = true → RR = false → BC = 5 := fun h1 h2 => by rw [← hBC]; exact bad5 (by omega) (hRP.trans h1) (hRR.trans h2)
      rw [hRP] at qR
      rw [hRR] at qr
      unfold pArr at qR
      obtain ⟨W0, hW0⟩ : ∃ W0 : Int, (if RP = false then 18 else if RR = false then 5 else 0) = W0 := ⟨_, rfl⟩
      have hWB : W0 ≠ 0 → W0 = BC := by
        rw [← hW0]
        cases RP
        · intro _; exact (hb18 rfl).symm
        · cases RR
          · intro _; exact (hb5 rfl rfl).symm
          · intro h; exact absurd rfl h
      have hWZ : W0 = 0 → RP = true ∧ RR = true := by
        rw [← hW0]
        cases RP
        · intro h; cases h
        · cases RR
          · intro h; cases h
          · intro _; exact ⟨rfl, rfl⟩
      clear hb18 hb5 hRP hRR hcell hor
      replace hbr := hide hbr
      replace hall := hide hall
      replace hxr := hide hxr
      replace hri := hide hri
      replace qR := hide qR
      replace qr := hide qr
      replace hb0 := hide hb0
      replace hb8 := hide hb8
      replace hWB := hide hWB
      replace hWZ := hide hWZ
      replace hW0 := hide hW0
      replace hBC := hide hBC
      go_upto_region 7 with fail
      go_wp2_with fail
      refine (qR.out).mono ?_
      rintro e w5 ⟨rfl, hb5⟩
      have e0 := (World.cell?_of_block (hb5.block bk hbkr)).trans c0
      have e4 := (World.cell?_of_block (hb5.block bk hbkr)).trans c4'
      have e5 := (World.cell?_of_block (hb5.block bk hbkr)).trans c5'
      clear c0 c1' c2' c3' c4' c5' qR e0
      replace hb5 := hide hb5
      go_upto_if 33 with fail
      go_cut [9] from 27 to 40 (fun v wx => v = .int .i64 W0 ∧ Below wr.heap.size wr wx)
      case first =>
        cases RP
        · obtain rfl : (18 : Int) = W0 := hW0.out
          go_wp2_with fail
          go_meet
          exact ⟨rfl, hb5.out⟩
        · go_wp2_with fail
          refine (qr.out w5).mono ?_
          rintro e w6 ⟨rfl, hb6⟩
          have hb56 := hb5.out.trans (hb6.mono hb5.out.size)
          clear hb6 e4 e5 qr
          replace hb56 := hide hb56
          cases RR
          · obtain rfl : (5 : Int) = W0 := hW0.out
            go_wp2_with fail
            go_meet
            exact ⟨rfl, hb56.out⟩
          · obtain rfl : (0 : Int) = W0 := hW0.out
            go_wp2_with fail
            go_meet
            exact ⟨rfl, hb56.out⟩
      case rest =>
      obtain ⟨rfl, hbc⟩ := hcut
      have hbrc := hbr.out.trans (hbc.mono hzr)
      have hzc := hbrc.size
      clear hb5 e4 e5 qr hbr hxr hbc
      replace hbrc := hide hbrc
      go_upto_block 2 with fail
      go_cut [9, 10] from 41 to 60 (fun v _ wx => v = .int .i64 BC ∧ Below wc.heap.size wc wx)
      case first =>
        go_upto_block 3 with fail
        go_loopw [9, 10] (fun wv kv wr => ∃ (k : Nat) (v : Int), k ≤ i ∧ kv = .int .i64 (k : Int) ∧ wv = .int .i64 v ∧ Below wc.heap.size wc wr ∧ (v = 0 → W0 = 0 ∧ ∀ (j : Nat) (r' : Rul), j < k → ls[j]? = some r' → ¬ (r'.p = r.p ∧ r'.i = r.i)) ∧ (v ≠ 0 → v = BC)) (fun _ kv _ => i - (intOf kv).toNat)
        case atStart => exact ⟨0, W0, by omega, rfl, rfl, Below.refl _ _, fun h => ⟨h, fun j r' hj => by omega⟩, hWB.out⟩
        case round =>
          obtain ⟨k, v, hk, rfl, rfl, hbi, hv0, hv1⟩ := hrel
          by_cases hki : k < i
          · have hklt : (k : Int) < (i : Int) := by omega
            by_cases hvz : v = 0
            · subst hvz
              have hkm : (k : Int) < (m : Int) := by omega
              have hkm2 : k < m := by omega
              obtain ⟨hW00, hno⟩ := hv0 rfl
              obtain ⟨hRP1, hRR1⟩ := hWZ.out hW00
              have hxi := hx3.out.below (hbrc.out.trans (hbi.mono hzc))
              obtain ⟨bk2, off2, r1, hA2, -, hrk, hcell2⟩ := hxi.at rulC_len (by omega) (show k < m by omega)
              cases hA2
              obtain ⟨bk3, off3, r3, hA3, -, hri3, hcell3⟩ := hxi.at rulC_len (by omega) him
              cases hA3
              obtain rfl : r = r3 := Option.some.inj (hri.out.symm.trans hri3)
              have hbw : bk < wr.heap.size := by have := hbi.size; omega
              obtain ⟨⟨rv, rh, rl⟩, ri, re, rm⟩ := r
              obtain ⟨⟨sv, sh, sl⟩, si, se, sm⟩ := r1
              have f0 := fun l : Later wr => (World.cell?_of_block (l.hb.block bk hbw)).trans (hcell2 0 (.bool sv) rfl)
              have f1 := fun l : Later wr => (World.cell?_of_block (l.hb.block bk hbw)).trans (hcell2 1 (.int .u64 (sh : Int)) rfl)
              have f2 := fun l : Later wr => (World.cell?_of_block (l.hb.block bk hbw)).trans (hcell2 2 (.int .u64 (sl : Int)) rfl)
              have f3 := fun l : Later wr => (World.cell?_of_block (l.hb.block bk hbw)).trans (hcell2 3 (.int .i64 si) rfl)
              have g0 := fun l : Later wr => (World.cell?_of_block (l.hb.block bk hbw)).trans (hcell3 0 (.bool rv) rfl)
              have g1 := fun l : Later wr => (World.cell?_of_block (l.hb.block bk hbw)).trans (hcell3 1 (.int .u64 (rh : Int)) rfl)
              have g2 := fun l : Later wr => (World.cell?_of_block (l.hb.block bk hbw)).trans (hcell3 2 (.int .u64 (rl : Int)) rfl)
              have g3 := fun l : Later wr => (World.cell?_of_block (l.hb.block bk hbw)).trans (hcell3 3 (.int .i64 ri) rfl)
              simp only [Nat.add_zero] at f0 g0
              clear hcell2 hcell3 hxi hri3 hv0 hv1
              dsimp only at hno
              replace hW00 := hide hW00
              by_cases e1 : sv = rv
              · subst e1
                by_cases e2 : sh = rh
                · subst e2
                  by_cases e3 : sl = rl
                  · subst e3
                    by_cases e4 : si = ri
                    · subst e4
                      replace hrk := hide hrk
                      replace hbi := hide hbi
                      replace hno := hide hno
                      go_upto_region 14 with fail
                      refine wp_region_L (by as_aux_lemma => kernel_rfl) ?_
                      refine wpE_seg 0 11 (fuel := 0) (by as_aux_lemma => kernel_rfl) (fun d _ _ _ _ h => by cases d <;> exact h) (by as_aux_lemma => kernel_rfl) (by as_aux_lemma => kernel_rfl) ?_
                      simp only [List.drop_zero, List.take_succ_cons, List.take_zero]
                      iterate 11 (refine wpQE_step (fun K hK => ?_); go_simp; refine hK _ ?_; clear hK K)
                      refine wpQE_nil ?_
                      refine wpE_done (by as_aux_lemma => kernel_rfl) (fun w9 hb9 => ?_) 0
                      clear f0 f1 f2 f3 g0 g1 g2 g3
                      have hbx := hbi.out.trans (hb9.mono hbi.out.size)
                      clear hb9 hbi
                      replace hbx := hide hbx
                      go_wp2_with fail
                      exact ⟨⟨k + 1, (8 : Int), by omega, by first | rfl | go_num, rfl, hbx.out, fun h => absurd h (by decide), fun _ => (hb8.out hRP1 hRR1 k _ hki hrk.out ⟨rfl, rfl⟩).symm⟩, by simp only [intOf]; omega⟩
                    · have hne := e4
                      have hstep : ∀ (j : Nat) (r' : Rul), j < k + 1 → ls[j]? = some r' → ¬ (r'.p = ⟨sv, sh, sl⟩ ∧ r'.i = ri) := fun j r' hj hr => by
                        by_cases hji : j = k
                        · subst hji
                          obtain rfl := Option.some.inj (hrk.symm.trans hr)
                          rintro ⟨e1, e2⟩
                          cases e1
                          exact hne (by first | rfl | exact e2)
                        · exact hno j r' (by omega) hr
                      clear hno hrk
                      replace hstep := hide hstep
                      replace hbi := hide hbi
                      go_upto_region 14 with fail
                      refine wp_region_L (by as_aux_lemma => kernel_rfl) ?_
                      refine wpE_seg 0 11 (fuel := 0) (by as_aux_lemma => kernel_rfl) (fun d _ _ _ _ h => by cases d <;> exact h) (by as_aux_lemma => kernel_rfl) (by as_aux_lemma => kernel_rfl) ?_
                      simp only [List.drop_zero, List.take_succ_cons, List.take_zero]
                      iterate 11 (refine wpQE_step (fun K hK => ?_); go_simp; refine hK _ ?_; clear hK K)
                      refine wpQE_nil ?_
                      refine wpE_done (by as_aux_lemma => kernel_rfl) (fun w9 hb9 => ?_) 0
                      clear f0 f1 f2 f3 g0 g1 g2 g3
                      have hbx := hbi.out.trans (hb9.mono hbi.out.size)
                      clear hb9 hbi
                      replace hbx := hide hbx
                      go_wp2_with fail
                      exact ⟨⟨k + 1, 0, by omega, by first | rfl | go_num, rfl, hbx.out, fun _ => ⟨hW00.out, hstep.out⟩, fun h => absurd rfl h⟩, by simp only [intOf]; omega⟩
                  · have hne := e3
                    have n3 : ¬ (sl : Int) = (rl : Int) := by omega
                    have hstep : ∀ (j : Nat) (r' : Rul), j < k + 1 → ls[j]? = some r' → ¬ (r'.p = ⟨sv, sh, rl⟩ ∧ r'.i = ri) := fun j r' hj hr => by
                      by_cases hji : j = k
                      · subst hji
                        obtain rfl := Option.some.inj (hrk.symm.trans hr)
                        rintro ⟨e1, e2⟩
                        cases e1
                        exact hne (by first | rfl | exact e2)
                      · exact hno j r' (by omega) hr
                    clear hno hrk
                    replace hstep := hide hstep
                    replace hbi := hide hbi
                    go_upto_region 14 with fail
                    refine wp_region_L (by as_aux_lemma => kernel_rfl) ?_
                    refine wpE_seg 0 11 (fuel := 0) (by as_aux_lemma => kernel_rfl) (fun d _ _ _ _ h => by cases d <;> exact h) (by as_aux_lemma => kernel_rfl) (by as_aux_lemma => kernel_rfl) ?_
                    simp only [List.drop_zero, List.take_succ_cons, List.take_zero]
                    iterate 11 (refine wpQE_step (fun K hK => ?_); go_simp; refine hK _ ?_; clear hK K)
                    refine wpQE_nil ?_
                    refine wpE_done (by as_aux_lemma => kernel_rfl) (fun w9 hb9 => ?_) 0
                    clear f0 f1 f2 f3 g0 g1 g2 g3
                    have hbx := hbi.out.trans (hb9.mono hbi.out.size)
                    clear hb9 hbi
                    replace hbx := hide hbx
                    go_wp2_with fail
                    exact ⟨⟨k + 1, 0, by omega, by first | rfl | go_num, rfl, hbx.out, fun _ => ⟨hW00.out, hstep.out⟩, fun h => absurd rfl h⟩, by simp only [intOf]; omega⟩
                · have hne := e2
                  have n2 : ¬ (sh : Int) = (rh : Int) := by omega
                  have hstep : ∀ (j : Nat) (r' : Rul), j < k + 1 → ls[j]? = some r' → ¬ (r'.p = ⟨sv, rh, rl⟩ ∧ r'.i = ri) := fun j r' hj hr => by
                    by_cases hji : j = k
                    · subst hji
                      obtain rfl := Option.some.inj (hrk.symm.trans hr)
                      rintro ⟨e1, e2⟩
                      cases e1
                      exact hne (by first | rfl | exact e2)
                    · exact hno j r' (by omega) hr
                  clear hno hrk
                  replace hstep := hide hstep
                  replace hbi := hide hbi
                  go_upto_region 14 with fail
                  refine wp_region_L (by as_aux_lemma => kernel_rfl) ?_
                  refine wpE_seg 0 11 (fuel := 0) (by as_aux_lemma => kernel_rfl) (fun d _ _ _ _ h => by cases d <;> exact h) (by as_aux_lemma => kernel_rfl) (by as_aux_lemma => kernel_rfl) ?_
                  simp only [List.drop_zero, List.take_succ_cons, List.take_zero]
                  iterate 11 (refine wpQE_step (fun K hK => ?_); go_simp; refine hK _ ?_; clear hK K)
                  refine wpQE_nil ?_
                  refine wpE_done (by as_aux_lemma => kernel_rfl) (fun w9 hb9 => ?_) 0
                  clear f0 f1 f2 f3 g0 g1 g2 g3
                  have hbx := hbi.out.trans (hb9.mono hbi.out.size)
                  clear hb9 hbi
                  replace hbx := hide hbx
                  go_wp2_with fail
                  exact ⟨⟨k + 1, 0, by omega, by first | rfl | go_num, rfl, hbx.out, fun _ => ⟨hW00.out, hstep.out⟩, fun h => absurd rfl h⟩, by simp only [intOf]; omega⟩
              · have hne := e1
                have n1 : (sv == rv) = false := by simpa using e1
                have hstep : ∀ (j : Nat) (r' : Rul), j < k + 1 → ls[j]? = some r' → ¬ (r'.p = ⟨rv, rh, rl⟩ ∧ r'.i = ri) := fun j r' hj hr => by
                  by_cases hji : j = k
                  · subst hji
                    obtain rfl := Option.some.inj (hrk.symm.trans hr)
                    rintro ⟨e1, e2⟩
                    cases e1
                    exact hne (by first | rfl | exact e2)
                  · exact hno j r' (by omega) hr
                clear hno hrk
                replace hstep := hide hstep
                replace hbi := hide hbi
                go_upto_region 14 with fail
                refine wp_region_L (by as_aux_lemma => kernel_rfl) ?_
                refine wpE_seg 0 11 (fuel := 0) (by as_aux_lemma => kernel_rfl) (fun d _ _ _ _ h => by cases d <;> exact h) (by as_aux_lemma => kernel_rfl) (by as_aux_lemma => kernel_rfl) ?_
                simp only [List.drop_zero, List.take_succ_cons, List.take_zero]
                iterate 11 (refine wpQE_step (fun K hK => ?_); go_simp; refine hK _ ?_; clear hK K)
                refine wpQE_nil ?_
                refine wpE_done (by as_aux_lemma => kernel_rfl) (fun w9 hb9 => ?_) 0
                clear f0 f1 f2 f3 g0 g1 g2 g3
                have hbx := hbi.out.trans (hb9.mono hbi.out.size)
                clear hb9 hbi
                replace hbx := hide hbx
                go_wp2_with fail
                exact ⟨⟨k + 1, 0, by omega, by first | rfl | go_num, rfl, hbx.out, fun _ => ⟨hW00.out, hstep.out⟩, fun h => absurd rfl h⟩, by simp only [intOf]; omega⟩
            · have hvB := hv1 hvz
              clear hv0 hv1
              subst hvB
              replace hbi := hide hbi
              go_wp2_with fail
              go_meet
              exact ⟨rfl, hbi.out⟩
          · obtain rfl : k = i := by omega
            have hlt2 : ((k : Int) < (k : Int)) = False := by simp
            obtain rfl : v = BC := by
              by_cases hvz : v = 0
              · obtain ⟨hW00, hno⟩ := hv0 hvz
                obtain ⟨hRP1, hRR1⟩ := hWZ.out hW00
                rw [hvz]
                exact (hb0.out hRP1 hRR1 hno).symm
              · exact hv1 hvz
            clear hv0 hv1
            replace hbi := hide hbi
            go_wp2_with fail
            go_meet
            exact ⟨rfl, hbi.out⟩
      case rest =>
        obtain ⟨rfl, hbc2⟩ := hcut
        have hbr2 := hbrc.out.trans (hbc2.mono hzc)
        clear hbrc hbc2 hb0 hb8 hWB hWZ hW0
        by_cases hBz : BC = 0
        · have hall2 : ∀ (j : Nat) (r' : Rul), j < i + 1 → ls[j]? = some r' → badC ls j r' = 0 := by
            intro j r' hj hr'
            by_cases hji : j = i
            · subst hji
              obtain rfl := Option.some.inj (hri.out.symm.trans hr')
              rw [hBC.out, hBz]
            · exact hall.out j r' (by omega) hr'
          clear hBC hall hri hbad
          subst hBz
          replace hbr2 := hide hbr2
          replace hall2 := hide hall2
          go_wp2_with fail
          exact ⟨⟨i + 1, by omega, by first | rfl | go_num, hbr2.out, hall2.out⟩, by simp only [intOf]; omega⟩
        · have hX := hbad.out i r hri.out (by rw [hBC.out]; exact hBz) hall.out
          rw [hBC.out] at hX
          obtain ⟨rfl, rfl, rfl⟩ := hX
          have hB4 := hB3.out.trans (hbr2.mono hB3.out.size)
          have p := hA.out wc (hm3.out.below hbr2)
          clear hbad hgood hBC hall hri hbr2
          replace hB4 := hide hB4
          replace p := hide p
          go_wp2_with fail
          refine p.out.mono ?_
          rintro e w9 ⟨rfl, hb9⟩
          have hB9 := hB4.out.trans (hb9.mono hB4.out.size)
          clear hb9 p
          replace hB9 := hide hB9
          go_wp2_with fail
          go_ret
          exact ⟨rfl, hB9.out⟩
    · obtain rfl : i = m := by omega
      have hlt : ((i : Int) < (i : Int)) = False := by simp
      have hG : Good ls := fun j r' hj => hall j r' (by have := (List.getElem?_eq_some_iff.1 hj).1; omega) hj
      obtain ⟨x, tg, N, rs, bs, gs, rfl, rfl, rfl, hL, hgl⟩ := hgood.out hG
      have hLr := hL.below hbr
      have hxr := hx3.out.on hbr
      have hgr := blk_below hbr (Nat.lt_of_lt_of_le hz1 hz3) hg3.out
      have hzr := hbr.size
      have hzw : w.heap.size < wr.heap.size := lt_of_blk hgr
      have hBr := hB3.out.trans (hbr.mono hB3.out.size)
      have hmr := hm3.out.below hbr
      have hokp : ∀ r ∈ ls, r.p.ok := fun r hr => (hok2.out r hr).1
      have q1 := fun l : Later wr => lOf_any x tg rs bs 0 a ha l.w N _ _ (hLr.below l.hb).lim (hLr.below l.hb).trie
      rw [of_under ls hok2.out hG a ha] at q1
      have q2 := fun l : Later wr => under_any i c A' ls hokp a ha l.w (hxr.on l.hb) (by omega)
      rw [underL_eq] at q2
      have q3 := fun l : Later wr => (len_any (hLr.below l.hb).trie).mono (fun e w' (h : e = .returned (.int .i64 (ls.length : Int)) ∧ w' = l.w) => (⟨h.1, h.2 ▸ Below.refl _ _⟩ : e = .returned (.int .i64 (ls.length : Int)) ∧ Below l.w.heap.size l.w w'))
      rw [hlen] at q3
      have hcg := fun l : Later wr => blk_cell (blk_below l.hb hzw hgr)
      have hcx := fun l : Later wr => blk_cell (blk_below l.hb (lt_of_blk hLr.lim) hLr.lim) 0
      obtain ⟨UA, hUA⟩ : ∃ u, uL (undF ls a) = u := ⟨_, rfl⟩
      rw [hUA] at q1 q2
      clear hUA hL hbad hgood hall hbr hx3 hg3 hB3 hm3 hokp
      replace hLr := hide hLr
      replace hxr := hide hxr
      replace hgr := hide hgr
      replace hBr := hide hBr
      replace hmr := hide hmr
      replace q1 := hide q1
      replace q2 := hide q2
      replace q3 := hide q3
      replace hG := hide hG
      go_upto_region 18 with fail
      refine wp_region_L (by as_aux_lemma => kernel_rfl) ?_
      refine wpE_seg 0 29 (fuel := 0) (by as_aux_lemma => kernel_rfl) (fun d _ _ _ _ h => by cases d <;> exact h) (by as_aux_lemma => kernel_rfl) (by as_aux_lemma => kernel_rfl) ?_
      simp only [List.drop_zero, List.take_succ_cons, List.take_zero]
      iterate 13 (refine wpQE_step (fun K hK => ?_); go_simp; refine hK _ ?_; clear hK K)
      (refine wpQE_step (fun K hK => ?_); go_simp; apply Exists.intro; refine ⟨fun l => ?_, hK _ ?_⟩; (go_at_call 16; refine (q1.out l).mono ?_; rintro e w' ⟨rfl, hb⟩; exact ⟨rfl, hb⟩); clear hK K)
      iterate 2 (refine wpQE_step (fun K hK => ?_); go_simp; refine hK _ ?_; clear hK K)
      (refine wpQE_step (fun K hK => ?_); go_simp; apply Exists.intro; refine ⟨fun l => ?_, hK _ ?_⟩; (go_at_call 17; refine (q2.out l).mono ?_; rintro e w' ⟨rfl, hb⟩; exact ⟨rfl, hb⟩); clear hK K)
      iterate 7 (refine wpQE_step (fun K hK => ?_); go_simp; refine hK _ ?_; clear hK K)
      (refine wpQE_step (fun K hK => ?_); go_simp; apply Exists.intro; refine ⟨fun l => ?_, hK _ ?_⟩; (go_at_call 18; refine (q3.out l).mono ?_; rintro e w' ⟨rfl, hb⟩; exact ⟨rfl, hb⟩); clear hK K)
      iterate 4 (refine wpQE_step (fun K hK => ?_); go_simp; refine hK _ ?_; clear hK K)
      refine wpQE_nil ?_
      refine wpE_done (by as_aux_lemma => kernel_rfl) (fun w9 hb9 => ?_) 0
      have hL9 := hLr.out.below hb9
      have hx9 := hxr.out.on hb9
      have hB9 := hBr.out.trans (hb9.mono hBr.out.size)
      have hm9 := hmr.out.below hb9
      have qR := lRules_any w9 _ x tg N _ _ rs bs ls gs ls _ 0 hL9 (by omega)
      clear hcg hcx q1 q2 q3 hLr hxr hgr hBr hmr hb9
      replace hL9 := hide hL9
      replace hx9 := hide hx9
      replace hB9 := hide hB9
      replace hm9 := hide hm9
      replace qR := hide qR
      go_wp2_with fail
      refine qR.out.mono ?_
      rintro e w10 ⟨v, rfl, hv, hb10⟩
      obtain ⟨A9, c9, rfl, -, -, hv9⟩ := own_isv hv
      rw [hlen] at hv9 ⊢
      have hx10 := hx9.out.on hb10
      have hL10 := hL9.out.below hb10
      have hB10 := hB9.out.trans (hb10.mono hB9.out.size)
      have hm10 := hm9.out.below hb10
      have hr10 : IsT rulC 6 w10 w10.heap.size A9 i ls := ⟨hlen, hv9⟩
      clear qR hv hv9 hb10 hL9 hx9 hB9 hm9
      replace hx10 := hide hx10
      replace hL10 := hide hL10
      replace hB10 := hide hB10
      replace hm10 := hide hm10
      replace hr10 := hide hr10
      go_wp2_with fail
      go_loopw [12] (fun iv wr => ∃ k : Nat, k ≤ i ∧ iv = .int .i64 (k : Int) ∧ Below w10.heap.size w10 wr) (fun iv _ => i - (intOf iv).toNat)
      case atStart => exact ⟨0, by omega, rfl, Below.refl _ _⟩
      case round =>
        obtain ⟨k, hk, rfl, hbr⟩ := hrel
        have hzr2 := hbr.size
        have hLr := hL10.out.below hbr
        by_cases hki : k < i
        · have hklt : (k : Int) < (i : Int) := by omega
          have hki3 : (k : Int).toNat < i := by omega
          obtain ⟨b1, o1, r1, hA1, hb1, hr1, hcell1⟩ := (hx10.out.below hbr).at rulC_len (by omega) hki
          obtain ⟨b2, o2, r2, hA2, hb2, hr2, hcell2⟩ := (hr10.out.below hbr).at rulC_len (by omega) hki
          subst hA1 hA2
          obtain rfl : r1 = r2 := Option.some.inj (hr1.symm.trans hr2)
          have hb1r : b1 < wr.heap.size := by omega
          have hb2r : b2 < wr.heap.size := by omega
          have hH : HF ls k = r1.m := by unfold HF; rw [hr1]; rfl
          have q := fun l : Later wr => (lHave_is l.w _ x tg N _ _ rs bs ls gs (HF ls) 0 (hLr.below l.hb) hgl (by omega) hG.out k (by omega)).mono (fun e w' (h : e = .returned (.int .i64 (HF ls k)) ∧ w' = l.w) => (⟨h.1, h.2 ▸ Below.refl _ _⟩ : e = .returned (.int .i64 (HF ls k)) ∧ Below l.w.heap.size l.w w'))
          rw [hH] at q
          have f0 := fun l : Later wr => (World.cell?_of_block (l.hb.block b1 hb1r)).trans (hcell1 0 (.bool r1.p.v6) rfl)
          have f1 := fun l : Later wr => (World.cell?_of_block (l.hb.block b1 hb1r)).trans (hcell1 1 (.int .u64 (r1.p.hi : Int)) rfl)
          have f2 := fun l : Later wr => (World.cell?_of_block (l.hb.block b1 hb1r)).trans (hcell1 2 (.int .u64 (r1.p.lo : Int)) rfl)
          have f3 := fun l : Later wr => (World.cell?_of_block (l.hb.block b1 hb1r)).trans (hcell1 3 (.int .i64 r1.i) rfl)
          have f4 := fun l : Later wr => (World.cell?_of_block (l.hb.block b1 hb1r)).trans (hcell1 4 (.int .i64 r1.e) rfl)
          have f5 := fun l : Later wr => (World.cell?_of_block (l.hb.block b1 hb1r)).trans (hcell1 5 (.int .i64 r1.m) rfl)
          have g0 := fun l : Later wr => (World.cell?_of_block (l.hb.block b2 hb2r)).trans (hcell2 0 (.bool r1.p.v6) rfl)
          have g1 := fun l : Later wr => (World.cell?_of_block (l.hb.block b2 hb2r)).trans (hcell2 1 (.int .u64 (r1.p.hi : Int)) rfl)
          have g2 := fun l : Later wr => (World.cell?_of_block (l.hb.block b2 hb2r)).trans (hcell2 2 (.int .u64 (r1.p.lo : Int)) rfl)
          have g3 := fun l : Later wr => (World.cell?_of_block (l.hb.block b2 hb2r)).trans (hcell2 3 (.int .i64 r1.i) rfl)
          have g4 := fun l : Later wr => (World.cell?_of_block (l.hb.block b2 hb2r)).trans (hcell2 4 (.int .i64 r1.e) rfl)
          have g5 := fun l : Later wr => (World.cell?_of_block (l.hb.block b2 hb2r)).trans (hcell2 5 (.int .i64 r1.m) rfl)
          simp only [Nat.add_zero] at f0 g0
          clear hcell1 hcell2 hLr hH hr1 hr2
          replace hbr := hide hbr
          replace q := hide q
          go_upto_region 26 with fail
          refine wp_region_L (by as_aux_lemma => kernel_rfl) ?_
          refine wpE_seg 0 21 (fuel := 0) (by as_aux_lemma => kernel_rfl) (fun d _ _ _ _ h => by cases d <;> exact h) (by as_aux_lemma => kernel_rfl) (by as_aux_lemma => kernel_rfl) ?_
          simp only [List.drop_zero, List.take_succ_cons, List.take_zero]
          iterate 12 (refine wpQE_step (fun K hK => ?_); go_simp; refine hK _ ?_; clear hK K)
          (refine wpQE_step (fun K hK => ?_); go_simp; apply Exists.intro; refine ⟨fun l => ?_, hK _ ?_⟩; (go_at_call 20; refine (q.out l).mono ?_; rintro e w' ⟨rfl, hb⟩; exact ⟨rfl, hb⟩); clear hK K)
          iterate 8 (refine wpQE_step (fun K hK => ?_); go_simp; refine hK _ ?_; clear hK K)
          refine wpQE_nil ?_
          refine wpE_done (by as_aux_lemma => kernel_rfl) (fun w11 hb11 => ?_) 0
          clear f0 f1 f2 f3 f4 f5 g0 g1 g2 g3 g4 g5 q
          have hbx := hbr.out.trans (hb11.mono hbr.out.size)
          clear hbr hb11
          replace hbx := hide hbx
          go_wp2_with fail
          exact ⟨⟨k + 1, by omega, by first | rfl | go_num, hbx.out⟩, by simp only [intOf]; omega⟩
        · obtain rfl : k = i := by omega
          have hlt2 : ((k : Int) < (k : Int)) = False := by simp
          have q1 := lHave_no wr _ x tg N _ _ rs bs ls gs ls _ 0 hLr hgl (-1) (by omega)
          have q2 := lHave_no wr _ x tg N _ _ rs bs ls gs ls _ 0 hLr hgl (k : Int) (by omega)
          have hBr := hB10.out.trans (hbr.mono hB10.out.size)
          have p := hA.out wr (hm10.out.below hbr)
          clear hbr hLr
          replace q1 := hide q1
          replace q2 := hide q2
          replace hBr := hide hBr
          replace p := hide p
          go_wp2_with fail
          refine q1.out.mono ?_
          rintro e w11 ⟨rfl, rfl⟩
          go_wp2_with fail
          refine q2.out.mono ?_
          rintro e w12 ⟨rfl, rfl⟩
          go_wp2_with fail
          refine p.out.mono ?_
          rintro e w13 ⟨rfl, hb13⟩
          have hB13 := hBr.out.trans (hb13.mono hBr.out.size)
          clear hb13 hBr
          replace hB13 := hide hB13
          go_wp2_with fail
          go_ret
          exact ⟨rfl, hB13.out⟩
theorem lnews_row (A : Option Addr) (n c : Nat) (es : List Rul) (v : Bool) (h l : Int) (w : World) (hx : IsT rulC 6 w w.heap.size A n es ∧ ∀ x ∈ es, Rul.ok x) (hnc : n ≤ c) (hcm : c ≤ maxLen) (h1 : (Lit.int .u64 h).wf = true) (h2 : (Lit.int .u64 l).wf = true) (hm : MaxAt w) :
    Calls Tryd.prog 4 #[.slice A n c, .agg #[.bool v, .int .u64 h, .int .u64 l]] w fun e w' => e = .returned (.bool true) ∧ Below w.heap.size w w' := by
  obtain ⟨h, rfl, h1'⟩ := u64_nat h1
  obtain ⟨l, rfl, h2'⟩ := u64_nat h2
  exact lnews_walk A n c es ⟨v, h, l⟩ ⟨h1', h2'⟩ w hx.1 hx.2 hnc hcm hm
end Addr05
end Go.Proofs.YtbcicbiphgeghaaDoor
