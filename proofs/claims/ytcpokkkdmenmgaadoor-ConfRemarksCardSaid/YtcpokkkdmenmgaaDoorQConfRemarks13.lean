/- limit: Go. Conditions: numbers in range. -/
import Derived.Test.YtcpokkkdmenmgaaDoorQConfRemarks12
import Derived.Test.YtcpokkkdmenmgaaDoorQConfRemarks3
import Derived.Test.YtcpokkkdmenmgaaDoorQConfRemarks5
import Derived.Test.YtcpokkkdmenmgaaDoorQConfRemarks2
import Derived.Test.YtcpokkkdmenmgaaDoorQConfRemarks6
import Derived.HandedShaped
import Derived.LaidMore
import Derived.Lay
import Derived.Maps.Own
import Derived.Maps.OwnOps
import Derived.Maps.OwnSet
import Derived.Maps.Views
import Derived.OpenShut
import Derived.Shelf.Vars
import Derived.Stop.Joined
import Derived.StringKeys
namespace Go.Proofs.YtcpokkkdmenmgaaDoor
open Go.RowKit Go.ChangeShapes Go.WideShapes Go.ChangeAt Go.Deep
namespace Addr05
/-- A rule. -/
structure Rul where
  p : Adr
  i : Int
  e : Int
  m : Int
/-- What each bucket has and when, where those of the first i have gone on to t. -/
def goSt (R : List Rul) (H : Nat → Int) (now t : Int) (i : Nat) : Nat → Int × Int := fun k =>
  if k < i then (match R[k]? with | some r => goH r.e r.m (H k) now t | none => H k, t) else (H k, now)
theorem goSt_zero (R : List Rul) (H : Nat → Int) (now t : Int) (k : Nat) : goSt R H now t 0 k = (H k, now) := by
  unfold goSt
  rw [if_neg (by omega)]
theorem goSt_succ (R : List Rul) (H : Nat → Int) (now t : Int) (i : Nat) {r : Rul} (hr : R[i]? = some r) (k : Nat) : (if k = i then (goH r.e r.m (H i) now t, t) else goSt R H now t i k) = goSt R H now t (i + 1) k := by
  unfold goSt
  by_cases h : k = i
  · subst h
    rw [if_pos rfl, if_pos (by omega), hr]
  · rw [if_neg h]
    by_cases h2 : k < i
    · rw [if_pos h2, if_pos (by omega)]
    · rw [if_neg h2, if_neg (by omega)]
/-- What Go turns: the limits' own cells and the buckets. -/
def goneT (x : Nat) (gs : List Nat) (k : Nat) : Prop := k = x ∨ k ∈ gs
end Addr05
end Go.Proofs.YtcpokkkdmenmgaaDoor
/- limit: at (the place of the rule with a prefix). Conditions: numbers of 64 bits. -/
namespace Go.Proofs.YtcpokkkdmenmgaaDoor
open Go.RowKit Go.ChangeShapes Go.WideShapes Go.ChangeAt Go.Deep
section
variable {P : Program} {ops : Array Oper} {Q : Exit → Act → World → Prop} {rest : List Oper} {a : Act} {w : World}
/-- A new cell, one other value, and a struct stored into the cell. -/
theorem wpl_newm {oa om os : Oper} (hga : oa.guard = none) (hgm : om.guard = none) (hgs : os.guard = none) (T : TypeId) (zs : Array Value)
    (hal : ∀ (ρ : Operand → Value) (w : World), (execOp ρ oa).run P w = .ok (.value (.pointer (some ⟨w.heap.size, 0, none⟩))) (w.alloc (.cells zs T)))
    (d e : Nat) (hd : oa.dst = some d) (he : om.dst = some e) (u : Value) (hu : ∀ w : World, (execOp (a.put (some d) (.pointer (some ⟨w.heap.size, 0, none⟩))).eval om).run P (w.alloc (.cells zs T)) = .ok (.value u) (w.alloc (.cells zs T)))
    (y : Operand) (ho : os.op = .store T (.tmp d) y) (vs : Array Value) (hy : ∀ w : World, ((a.put (some d) (.pointer (some ⟨w.heap.size, 0, none⟩))).put (some e) u).eval y = .agg vs)
    (hdd : ∀ w : World, ((a.put (some d) (.pointer (some ⟨w.heap.size, 0, none⟩))).put (some e) u).eval (.tmp d) = .pointer (some ⟨w.heap.size, 0, none⟩))
    (hn : vs.size = zs.size) (hi : (P.info? T).map (·.size) = some vs.size) (h1 : vs.all (·.oneCell') = true)
    (h : ∀ w', w'.heap[w.heap.size]? = some (.cells vs T (0, 0)) → Below w.heap.size w w' → w.heap.size < w'.heap.size → wpList P ops Q rest (((a.put (some d) (.pointer (some ⟨w.heap.size, 0, none⟩))).put (some e) u).put os.dst undef) w') : wpList P ops Q (oa :: om :: os :: rest) a w := by
  refine Go.Great.wpList_runTo hga (some d) hd _ _ (hal _ _) ?_
  refine Go.Great.wpList_runTo hgm (some e) he _ _ (hu _) ?_
  have hb := blk_new w T zs
  refine wpl_st hgs T (.tmp d) y ho w.heap.size 0 (hdd w) vs (hy w) hb (by omega) hi h1 fun w' h2 h3 => ?_
  rw [putA_whole _ _ hn.symm] at h2
  have hs := h3.size
  simp only [World.size_alloc] at hs
  exact h w' h2 (((Below.refl _ _).alloc (Nat.le_refl _) _).trans (below_grown h3 (by simp) (by omega))) (by omega)
end
namespace Addr05
/-- A rule's cells. -/
def rulC (r : Rul) : List Value := [.bool r.p.v6, .int .u64 (r.p.hi : Int), .int .u64 (r.p.lo : Int), .int .i64 r.i, .int .i64 r.e, .int .i64 r.m]
theorem rul_one (v6 : Bool) (hi lo i e m : Int) : (#[.bool v6, .int .u64 hi, .int .u64 lo, .int .i64 i, .int .i64 e, .int .i64 m] : Array Value).all (·.oneCell') = true := all_oneCell_toArray (by
  intro v hv
  simp only [List.mem_cons, List.not_mem_nil, or_false] at hv
  rcases hv with rfl | rfl | rfl | rfl | rfl | rfl <;> rfl)
/-- The place of the first rule with a prefix, or -1. -/
def atL (rs : List Rul) (p : Adr) (i : Int) : Int := match rs.findIdx? (fun r => decide (r.p = p ∧ r.i = i)) with | some k => (k : Int) | none => -1
end Addr05
end Go.Proofs.YtcpokkkdmenmgaaDoor
/- A row that lists variables, met: the wrap that keeps what they hold and the world's shape; the cell of bytealg.MaxLen. No condition. -/
namespace Go.Proofs.YtcpokkkdmenmgaaDoor
open Go.RowKit Go.ChangeShapes Go.WideShapes Go.ChangeAt Go.Deep
theorem returns_laid {H : Type} {enc : TypeId × Value → H} {a : Assume} {C : Checked} {os : Os} {f : FuncId} {fn : Func} {s : ChangeSpec} {conds : List PathCond} {apart fresh handsOn again : Bool} {X : World → Array Value → Prop}
    (hX : ∀ (w w' : World) (args : Array Value), w.heap = w'.heap → X w args → X w' args)
    (own : ownKnob C.prog.godebug = none) (started : os.Started) (noInit : C.prog.inits.idxOf? f = none) (hfn : C.prog.funcs[f]? = some fn)
    (witness : ∃ (w : World) (tape : Tape) (i : Input), w.os = os ∧ (w.forCall tape i).Shaped C.prog ∧ i.vars = [] ∧ Input.okWide C.prog (w.forCall tape i) .any w.heap.size f i ∧
      ((s.pre enc C.prog fn conds apart (w.forCall tape i).memory i.args ∧ X (w.forCall tape i).memory i.args) ∧ sizedMet enc C.prog fn (OpenSpec.ofChange s) apart (w.forCall tape i).memory i.args) ∧ a.holds C.prog (lone (Frame.enter C.prog f i.args .normal) [] (w.forCall tape i)))
    (contract : ∀ (W : World) (base : Nat) (args : Array Value) (ds gs : List (DataW H)) (before : List MemPlace),
      (∀ (j : Nat) t v, fn.params[j]? = some t → args[j]? = some v → Value.okWide C.prog W .any base t v) →
      DataW.Whole enc C.prog fn.params.toList s.vars apart W args.toList ds gs before →
      conds.all (PathCond.test C.prog ⟨fn.params.toList, ds, s.plain.varTypes C.prog, gs⟩) = true →
      X W args → W.ShapedOpen C.prog →
      Calls C.prog f args W fun e W' => ∃ v, e = .returned v ∧ s.post enc C.prog fn apart fresh handsOn again W args v W') :
    ReturnsInHanded a C os f .any (fun w args => (s.pre enc C.prog fn conds apart w args ∧ X w args) ∧ sizedMet enc C.prog fn (OpenSpec.ofChange s) apart w args) (s.post enc C.prog fn apart fresh handsOn again) := by
  refine returnsInHanded_of_calls own started noInit witness ?_
  intro w tape i _ hsh _ hok hpre _
  obtain ⟨_, _, _, fn', hfn', _, _, _, _, hval⟩ := hok
  have e : fn' = fn := Option.some.inj (hfn'.symm.trans hfn)
  subst e
  obtain ⟨⟨⟨ds, gs, before, hw, hc⟩, hx⟩, _⟩ := hpre
  have hw' := DataW.Whole.of_heap (w' := w.forCall tape i) (by rfl) hw
  refine (contract (w.forCall tape i) w.heap.size i.args ds gs before hval hw' hc (hX _ _ _ (by rfl) hx) hsh).mono fun e W' ⟨v, he, hp⟩ => ?_
  subst he
  exact ChangeSpec.post_blind hp
theorem maxAt_of {w : World} (h : w.ShapedOpen Tryd.prog) : Addr05.MaxAt w :=
  cell_of_shapedOpen_int (t := 3) (zero := #[.int .i64 0]) h (of_decide_eq_true (by kernel_rfl)) (by kernel_rfl) rfl (by kernel_rfl) (by kernel_rfl) Tryd.underlying3
end Go.Proofs.YtcpokkkdmenmgaaDoor
/- Maps of the call's own, with texts as keys: of numbers (a part of a function), of Bools. Condition: fewer than 2^40 entries. -/
namespace Go.Proofs.YtcpokkkdmenmgaaDoor
open Go.RowKit Go.ChangeShapes Go.WideShapes Go.ChangeAt Go.Deep
open Go.Maps (Keyed)
namespace Conf18
theorem kLaw : Keyed Tryd.prog 9 := Go.Maps.string_keyed Tryd.underlying9
theorem zeroI (w : World) : (zeroValue 3).run Tryd.prog w = .ok (.int .i64 0) w := by kernel_rfl
theorem zeroB (w : World) : (zeroValue 4).run Tryd.prog w = .ok (.bool false) w := by kernel_rfl
abbrev kl (s : List UInt8) : Lit := .string s
theorem keyK (s : List UInt8) (h : s.length ≤ 1099511627776) : keyOf Tryd.prog 9 (.string (str s)) = some (kl s) := Go.WideMaps.keyOf_string_mk Tryd.underlying9 (by rw [show (str s).size = s.length from List.size_toArray]; unfold maxLen; omega)
/-- Block B is a map of at most n entries that says what f says. -/
def MapI (w : World) (B n : Nat) (f : List UInt8 → Option Nat) : Prop :=
  ∃ D : DataW Unit, w.ownsMap Tryd.prog 9 (plainElem Tryd.prog 3) B n D ∧ ∀ s, Maps.has D (kl s) = (f s).isSome ∧ ∀ v, f s = some v → ∀ z, D.atKey (kl s) z = .lit (.int .i64 (v : Int))
def MapB (w : World) (B n : Nat) (g : List UInt8 → Bool) : Prop :=
  ∃ D : DataW Unit, w.ownsMap Tryd.prog 9 (plainElem Tryd.prog 4) B n D ∧ ∀ s, D.atKey (kl s) (.lit (.bool false)) = .lit (.bool (g s))
theorem MapI.made (w : World) : MapI (w.alloc (.map #[] 0)) w.heap.size 0 (fun _ => none) := ⟨.map [], World.ownsMap_made _ _ _ _, fun s => ⟨rfl, fun v h => by cases h⟩⟩
theorem MapB.made (w : World) : MapB (w.alloc (.map #[] 0)) w.heap.size 0 (fun _ => false) := ⟨.map [], World.ownsMap_made _ _ _ _, fun _s => rfl⟩
theorem MapI.kept {w w' : World} {row : Option Nat} {B n : Nat} {f : List UInt8 → Option Nat} (h : MapI w B n f) (hg : w.grownBy w' row) (hne : some B ≠ row) : MapI w' B n f := by
  obtain ⟨D, h1, h2⟩ := h
  exact ⟨D, h1.kept hg hne, h2⟩
theorem MapB.kept {w w' : World} {row : Option Nat} {B n : Nat} {g : List UInt8 → Bool} (h : MapB w B n g) (hg : w.grownBy w' row) (hne : some B ≠ row) : MapB w' B n g := by
  obtain ⟨D, h1, h2⟩ := h
  exact ⟨D, h1.kept hg hne, h2⟩
theorem MapI.blk {w : World} {B n : Nat} {f : List UInt8 → Option Nat} (h : MapI w B n f) : ∃ es k, w.heap[B]? = some (.map es k) := by
  obtain ⟨D, ⟨es, k, h1, _⟩, _⟩ := h
  exact ⟨es, k, h1⟩
theorem MapB.blk {w : World} {B n : Nat} {g : List UInt8 → Bool} (h : MapB w B n g) : ∃ es k, w.heap[B]? = some (.map es k) := by
  obtain ⟨D, ⟨es, k, h1, _⟩, _⟩ := h
  exact ⟨es, k, h1⟩
theorem plainBool_inv' {P : Program} {e : TypeId} (he : P.underlying e = some .bool) {v : Value} {z : DataW Unit × List MemPlace} (h : plainElem P e v = some z) : ∃ x, v = .bool x ∧ z = (.lit (.bool x), []) := by
  unfold plainElem at h
  rw [he] at h
  cases v <;> simp at h
  exact ⟨_, rfl, h.symm⟩
theorem plainBool_inv {v : Value} {z : DataW Unit × List MemPlace} (h : plainElem Tryd.prog 4 v = some z) : ∃ x, v = .bool x ∧ z = (.lit (.bool x), []) := plainBool_inv' Tryd.underlying4 h
theorem MapI.look {w : World} {B n : Nat} {f : List UInt8 → Option Nat} (h : MapI w B n f) (s : List UInt8) (hs : s.length ≤ 1099511627776) :
    (Instr.lookup 43 (.map (some B)) (.string (str s)) true).run Tryd.prog w = .ok (.tuple #[.int .i64 (((f s).getD 0 : Nat) : Int), .bool (f s).isSome]) w := by
  obtain ⟨D, h1, h2⟩ := h
  obtain ⟨v, ps, hrun, hv⟩ := h1.look_ok kLaw Tryd.underlying43 (zeroI w) (plainElem_int Tryd.underlying3 (a := 0) (by decide)) (keyK s hs)
  obtain ⟨c, rfl, hc, _⟩ := plainElem_int_inv Tryd.underlying3 hv
  rw [hrun, (h2 s).1]
  have hc1 := congrArg Prod.fst hc
  dsimp only at hc1
  have : c = (((f s).getD 0 : Nat) : Int) := by
    rcases hf : f s with _ | u
    · have h3 := Maps.atKey_of_not_has (D := D) (k := kl s) (by rw [(h2 s).1, hf]; rfl) (.lit (.int .i64 0))
      rw [h3] at hc1
      simpa using hc1.symm
    · rw [(h2 s).2 u hf] at hc1
      simpa using hc1.symm
  rw [this]
section
variable {w : World} {ops : Array Oper} {rest : List Oper} {o : Oper} {a : Act} {Q : Exit → Act → World → Prop}
theorem wpl_lookB (hg : o.guard = none) (m x : Operand) (hop : o.op = Op.lookup 91 m x false) (B n : Nat) (g : List UInt8 → Bool) (s : List UInt8) (hs : s.length ≤ 1099511627776)
    (hm : a.eval m = .map (some B)) (hx : a.eval x = .string (str s)) (hB : MapB w B n g) (hK : wpList Tryd.prog ops Q rest (a.put o.dst (.bool (g s))) w) : wpList Tryd.prog ops Q (o :: rest) a w := by
  obtain ⟨D, h1, h2⟩ := hB
  refine wpList_plain hg fun K' hK' => ?_
  obtain ⟨v, ps, hrun, hv⟩ := h1.lookup kLaw Tryd.underlying91 (zeroB w) (plainElem_bool Tryd.underlying4 false) (keyK s hs)
  obtain ⟨b, rfl, hc⟩ := plainBool_inv hv
  rw [h2 s] at hc
  have : g s = b := by have h3 := hc; simp at h3; exact h3.1
  subst this
  unfold Oper.wp
  simp [execOp, hop, hm, hx, hrun, Result.andThen]
  exact hK' _ _ hK
theorem wpl_lookI (hg : o.guard = none) (m x : Operand) (hop : o.op = Op.lookup 43 m x true) (B n : Nat) (f : List UInt8 → Option Nat) (s : List UInt8) (hs : s.length ≤ 1099511627776)
    (hm : a.eval m = .map (some B)) (hx : a.eval x = .string (str s)) (hB : MapI w B n f) (hK : wpList Tryd.prog ops Q rest (a.put o.dst (.tuple #[.int .i64 (((f s).getD 0 : Nat) : Int), .bool (f s).isSome])) w) : wpList Tryd.prog ops Q (o :: rest) a w := by
  refine wpList_plain hg fun K' hK' => ?_
  unfold Oper.wp
  simp [execOp, hop, hm, hx, hB.look s hs, Result.andThen]
  exact hK' _ _ hK
theorem wp_putB (m x u : Operand) (hop : o.op = Op.mapUpdate 91 m x u) {K : Act → World → Prop} (B n : Nat) (g : List UInt8 → Bool) (s : List UInt8) (b : Bool) (hs : s.length ≤ 1099511627776) (hn : n < 1099511627776)
    (hm : a.eval m = .map (some B)) (hx : a.eval x = .string (str s)) (hu : a.eval u = .bool b) (hB : MapB w B n g) (hK : ∀ w', MapB w' B (n + 1) (fun y => if y = s then b else g y) → w.grownBy w' (some B) → ∀ v, K (a.put o.dst v) w') : o.wp Tryd.prog a w K Q := by
  obtain ⟨D, h1, h2⟩ := hB
  obtain ⟨w', hrun, h3, h4⟩ := h1.update kLaw Tryd.underlying91 (by unfold maxLen; omega) (keyK s hs) (plainElem_bool Tryd.underlying4 b)
  have hM : MapB w' B (n + 1) (fun y => if y = s then b else g y) := by
    refine ⟨_, h3, fun y => ?_⟩
    by_cases e : y = s
    · subst e
      rw [Maps.atKey_put_same h1.isMap (by trivial)]; simp
    · rw [Maps.atKey_put_other (by intro e2; exact e (by simpa [kl] using e2)), h2]; simp [e]
  unfold Oper.wp
  simp [execOp, hop, hm, hx, hu, hrun, Result.andThen]
  exact hK w' hM h4 _
theorem wp_putI (m x u : Operand) (hop : o.op = Op.mapUpdate 43 m x u) {K : Act → World → Prop} (B n : Nat) (f : List UInt8 → Option Nat) (s : List UInt8) (v : Nat) (hs : s.length ≤ 1099511627776) (hn : n < 1099511627776) (hv : v < 1099511627776)
    (hm : a.eval m = .map (some B)) (hx : a.eval x = .string (str s)) (hu : a.eval u = .int .i64 (v : Int)) (hB : MapI w B n f) (hK : ∀ w', MapI w' B (n + 1) (fun y => if y = s then some v else f y) → w.grownBy w' (some B) → ∀ v, K (a.put o.dst v) w') : o.wp Tryd.prog a w K Q := by
  obtain ⟨D, h1, h2⟩ := hB
  obtain ⟨w', hrun, h3, h4⟩ := h1.update kLaw Tryd.underlying43 (by unfold maxLen; omega) (keyK s hs) (plainElem_int Tryd.underlying3 (a := (v : Int)) (WalkArith.wf_i64 (by omega)))
  have hM : MapI w' B (n + 1) (fun y => if y = s then some v else f y) := by
    refine ⟨_, h3, fun y => ?_⟩
    by_cases e : y = s
    · subst e
      refine ⟨?_, fun v' hv' z => ?_⟩
      · rw [Maps.has_put_same h1.isMap (by trivial)]; simp
      · have hv2 : some v = some v' := by simpa using hv'
        cases hv2
        rw [Maps.atKey_put_same h1.isMap (by trivial)]
    · have hne : kl y ≠ kl s := by intro e2; exact e (by simpa [kl] using e2)
      refine ⟨?_, fun v' hv' z => ?_⟩
      · rw [Maps.has_put_other hne, (h2 y).1]; simp [e]
      · rw [Maps.atKey_put_other hne]; exact (h2 y).2 v' (by simpa [e] using hv') z
  unfold Oper.wp
  simp [execOp, hop, hm, hx, hu, hrun, Result.andThen]
  exact hK w' hM h4 _
end
end Conf18
end Go.Proofs.YtcpokkkdmenmgaaDoor
/- conf: once. No condition. -/
namespace Go.Proofs.YtcpokkkdmenmgaaDoor
open Go.RowKit Go.ChangeShapes Go.WideShapes Go.ChangeAt Go.Deep
namespace Conf18
set_option maxRecDepth 20000 in
set_option maxHeartbeats 8000000 in
theorem once_any (y : List UInt8) (hy : y.length ≤ 65536) (w : World) (x mb n : Nat) (g : List UInt8 → Bool) (hn : n < 100) (hc : w.cell? ⟨x, 11, none⟩ = some (.map (some mb))) (hM : MapB w mb n g) :
    Calls Tryd.prog 80 #[.pointer (some ⟨x, 0, none⟩), .string (str y)] w fun e w' => e = .returned (.bool (!g y)) ∧ (g y = true → w' = w) ∧ (g y = false → MapB w' mb (n + 1) (fun z => if z = y then true else g z) ∧ w.grownBy w' (some mb)) := by
  obtain ⟨b, hb⟩ : ∃ b, g y = b := ⟨_, rfl⟩
  replace hM := hide hM
  go_enter Tryd.func80, Tryd.ntmps80
  go_upto_region 1 with fail
  apply wp_region_lit
  iterate 5 (refine wpList_plain rfl fun K hK => ?_; go_simp; refine hK _ _ ?_; clear hK K)
  refine wpl_lookB rfl _ _ rfl mb n g y (by omega) rfl rfl hM.out ?_
  rw [hb]
  refine wpList_nil ?_
  go_simp
  cases b
  · go_upto_region 3 with fail
    apply wp_region_lit
    iterate 5 (refine wpList_plain rfl fun K hK => ?_; go_simp; refine hK _ _ ?_; clear hK K)
    refine wpList_plain rfl fun K hK => ?_
    refine wp_putB _ _ _ rfl mb n g y true (by omega) (by omega) rfl rfl rfl hM.out fun w2 h1 h2 v => hK _ _ ?_
    clear hK K
    replace h1 := hide h1
    replace h2 := hide h2
    refine wpList_nil ?_
    go_simp
    go_wp2_with fail
    go_ret
    exact ⟨by rw [hb]; rfl, fun h => (by rw [hb] at h; cases h), fun _ => ⟨h1.out, h2.out⟩⟩
  · go_wp2_with fail
    go_ret
    exact ⟨by rw [hb]; rfl, fun _ => rfl, fun h => (by rw [hb] at h; cases h)⟩
end Conf18
end Go.Proofs.YtcpokkkdmenmgaaDoor
/- conf: a configuration in memory. No condition. -/
namespace Go.Proofs.YtcpokkkdmenmgaaDoor
open Go.RowKit Go.ChangeShapes Go.WideShapes Go.ChangeAt Go.Deep
namespace Conf18
open Addr05 (Adr strv MaxAt)
theorem lt_of_blk {w : World} {g : Nat} {o : Obj} (h : w.heap[g]? = some o) : g < w.heap.size := by
  rcases Nat.lt_or_ge g w.heap.size with h1 | h1
  · exact h1
  · rw [Array.getElem?_eq_none h1] at h; cases h
def adC (a : Adr) : List Value := [.bool a.v6, .int .u64 (a.hi : Int), .int .u64 (a.lo : Int)]
def ndC (n : Nd) : List Value := [.string (str n.name), .int .i64 n.kind, .int .i64 n.above, .int .i64 n.weight, .bool n.a.v6, .int .u64 (n.a.hi : Int), .int .u64 (n.a.lo : Int)]
def vpC (v : Vp) : List Value := [.bool v.a.v6, .int .u64 (v.a.hi : Int), .int .u64 (v.a.lo : Int), .int .i64 v.proto, .int .i64 v.port, .int .i64 v.copies, .bool v.nat]
def vwC (v : Vw) : List Value := [.bool v.a.v6, .int .u64 (v.a.hi : Int), .int .u64 (v.a.lo : Int), .int .i64 v.bits, .int .i64 v.level]
def cfgA (c : Cfg) (nv vv wv e1 e2 : Value) : Array Value :=
  #[nv, vv, wv, .int .i64 c.factor, .int .i64 c.domain, .bool c.s0.v6, .int .u64 (c.s0.hi : Int), .int .u64 (c.s0.lo : Int), .bool c.s1.v6, .int .u64 (c.s1.hi : Int), .int .u64 (c.s1.lo : Int), e1, e2]
theorem info_nd : (Tryd.prog.info? 72).map (fun i => (i.zero, i.size, i.bytes)) = some (some (.agg #[.string ⟨#[]⟩, .int .i64 0, .int .i64 0, .int .i64 0, .bool false, .int .u64 0, .int .u64 0]), 7, 64) := by kernel_rfl
theorem info_vp : (Tryd.prog.info? 77).map (fun i => (i.zero, i.size, i.bytes)) = some (some (.agg #[.bool false, .int .u64 0, .int .u64 0, .int .i64 0, .int .i64 0, .int .i64 0, .bool false]), 7, 56) := by kernel_rfl
theorem info_vw : (Tryd.prog.info? 82).map (fun i => (i.zero, i.size, i.bytes)) = some (some (.agg #[.bool false, .int .u64 0, .int .u64 0, .int .i64 0, .int .i64 0]), 5, 40) := by kernel_rfl
structure CfgAt (w : World) (base x : Nat) (T : TypeId) (e1 e2 : Value) (c : Cfg) (nv vv wv : Value) : Prop where
  blk : w.heap[x]? = some (.cells (cfgA c nv vv wv e1 e2) T (0, 0))
  hx : base ≤ x
  hT : T ≠ 72 ∧ T ≠ 77 ∧ T ≠ 82
  nodes : w.ownsRow base 72 7 nv c.nodes.length (c.nodes.map ndC).flatten
  vips : w.ownsRow base 77 7 vv c.vips.length (c.vips.map vpC).flatten
  views : w.ownsRow base 82 5 wv c.views.length (c.views.map vwC).flatten
section
variable {w w' : World} {base x size n : Nat} {e T : TypeId} {v : Value} {xs : List Value} {cs : Array Value}
theorem row_not_x (h : w.ownsRow base e size v n xs) {fr : Nat × Nat} (hx : w.heap[x]? = some (.cells cs T fr)) (hne : T ≠ e) : v.ownBlock = none ∨ v.ownBlock ≠ some x := by
  rcases h.2 with ⟨rfl, _⟩ | ⟨g, cap, cur, rfl, hg, hh, _⟩
  · exact .inl rfl
  · right
    intro e2
    have : g = x := by simpa [Value.ownBlock] using e2
    subst this
    rw [hh] at hx
    simp at hx
    exact hne hx.2.1.symm
theorem row_not_map (h : w.ownsRow base e size v n xs) {es : Array MapEntry} {k : Nat} (hx : w.heap[x]? = some (.map es k)) : v.ownBlock = none ∨ v.ownBlock ≠ some x := by
  rcases h.2 with ⟨rfl, _⟩ | ⟨g, cap, cur, rfl, hg, hh, _⟩
  · exact .inl rfl
  · right
    intro e2
    have : g = x := by simpa [Value.ownBlock] using e2
    subst this
    rw [hh] at hx
    cases hx
theorem row_set (h : w.ownsRow base e size v n xs) (hx : w.heap[x]? = some (.cells cs T (0, 0))) (hne : T ≠ e) (i : Nat) (u : Value) : (w.setCell ⟨x, i, none⟩ u).ownsRow base e size v n xs := by
  obtain ⟨w2, h1, h2, h3⟩ := store_cell hx i u
  rw [h1]
  exact World.ownsRow.kept h h3 (row_not_x h hx hne)
end
section
variable {w w' : World} {base x : Nat} {T : TypeId} {e1 e2 e1' e2' nv vv wv nv' : Value} {c c' : Cfg}
theorem CfgAt.on (h : CfgAt w base x T e1 e2 c nv vv wv) (hb : Below w.heap.size w w') : CfgAt w' base x T e1 e2 c nv vv wv :=
  ⟨(hb.block x (lt_of_blk h.blk)).trans h.blk, h.hx, h.hT, row_on h.nodes hb, row_on h.vips hb, row_on h.views hb⟩
theorem CfgAt.kept_map {m : Nat} (h : CfgAt w base x T e1 e2 c nv vv wv) (hm : ∃ es k, w.heap[m]? = some (.map es k)) (hg : w.grownBy w' (some m)) : CfgAt w' base x T e1 e2 c nv vv wv := by
  obtain ⟨es, k, hm⟩ := hm
  refine ⟨(hg.block x (lt_of_blk h.blk) ?_).trans h.blk, h.hx, h.hT, World.ownsRow.kept h.nodes hg (row_not_map h.nodes hm), World.ownsRow.kept h.vips hg (row_not_map h.vips hm), World.ownsRow.kept h.views hg (row_not_map h.views hm)⟩
  intro e
  have : x = m := by simpa using e
  subst this
  rw [h.blk] at hm
  cases hm
theorem CfgAt.set (h : CfgAt w base x T e1 e2 c nv vv wv) (i : Nat) (u : Value) (hA : (cfgA c nv vv wv e1 e2).setIfInBounds i u = cfgA c' nv vv wv e1' e2') (h1 : c'.nodes = c.nodes) (h2 : c'.vips = c.vips) (h3 : c'.views = c.views) :
    CfgAt (w.setCell ⟨x, i, none⟩ u) base x T e1' e2' c' nv vv wv :=
  ⟨by rw [← hA]; exact blk_set h.blk i u, h.hx, h.hT, by rw [h1]; exact row_set h.nodes h.blk h.hT.1 i u, by rw [h2]; exact row_set h.vips h.blk h.hT.2.1 i u, by rw [h3]; exact row_set h.views h.blk h.hT.2.2 i u⟩
theorem CfgAt.pushN {nd : Nd} (h : CfgAt w base x T e1 e2 c nv vv wv) (h1 : w'.ownsRow base 72 7 nv' (c.nodes.length + 1) ((c.nodes.map ndC).flatten ++ ndC nd)) (h2 : Grew w nv w' nv') :
    w'.heap[x]? = some (.cells (cfgA c nv vv wv e1 e2) T (0, 0)) ∧ CfgAt (w'.setCell ⟨x, 0, none⟩ nv') base x T e1 e2 { c with nodes := c.nodes ++ [nd] } nv' vv wv := by
  have hb : w'.heap[x]? = some (.cells (cfgA c nv vv wv e1 e2) T (0, 0)) := by
    refine (h2.grown.block x (lt_of_blk h.blk) ?_).trans h.blk
    rcases row_not_x h.nodes h.blk h.hT.1 with h3 | h3
    · rw [h3]; intro e; cases e
    · intro e; exact h3 e.symm
  have r1 := World.ownsRow.kept h.vips h2.grown (rows_apart h.vips h.nodes (by decide))
  have r2 := World.ownsRow.kept h.views h2.grown (rows_apart h.views h.nodes (by decide))
  refine ⟨hb, blk_set hb 0 nv', h.hx, h.hT, ?_, row_set r1 hb h.hT.2.1 0 nv', row_set r2 hb h.hT.2.2 0 nv'⟩
  have h3 := row_set h1 hb h.hT.1 0 nv'
  simpa [List.length_append] using h3
theorem CfgAt.pushV {vp : Vp} (h : CfgAt w base x T e1 e2 c nv vv wv) (h1 : w'.ownsRow base 77 7 nv' (c.vips.length + 1) ((c.vips.map vpC).flatten ++ vpC vp)) (h2 : Grew w vv w' nv') :
    w'.heap[x]? = some (.cells (cfgA c nv vv wv e1 e2) T (0, 0)) ∧ CfgAt (w'.setCell ⟨x, 1, none⟩ nv') base x T e1 e2 { c with vips := c.vips ++ [vp] } nv nv' wv := by
  have hb : w'.heap[x]? = some (.cells (cfgA c nv vv wv e1 e2) T (0, 0)) := by
    refine (h2.grown.block x (lt_of_blk h.blk) ?_).trans h.blk
    rcases row_not_x h.vips h.blk h.hT.2.1 with h3 | h3
    · rw [h3]; intro e; cases e
    · intro e; exact h3 e.symm
  have r1 := World.ownsRow.kept h.nodes h2.grown (rows_apart h.nodes h.vips (by decide))
  have r2 := World.ownsRow.kept h.views h2.grown (rows_apart h.views h.vips (by decide))
  refine ⟨hb, blk_set hb 1 nv', h.hx, h.hT, row_set r1 hb h.hT.1 1 nv', ?_, row_set r2 hb h.hT.2.2 1 nv'⟩
  have h3 := row_set h1 hb h.hT.2.1 1 nv'
  simpa [List.length_append] using h3
theorem CfgAt.pushW {vw : Vw} (h : CfgAt w base x T e1 e2 c nv vv wv) (h1 : w'.ownsRow base 82 5 nv' (c.views.length + 1) ((c.views.map vwC).flatten ++ vwC vw)) (h2 : Grew w wv w' nv') :
    w'.heap[x]? = some (.cells (cfgA c nv vv wv e1 e2) T (0, 0)) ∧ CfgAt (w'.setCell ⟨x, 2, none⟩ nv') base x T e1 e2 { c with views := c.views ++ [vw] } nv vv nv' := by
  have hb : w'.heap[x]? = some (.cells (cfgA c nv vv wv e1 e2) T (0, 0)) := by
    refine (h2.grown.block x (lt_of_blk h.blk) ?_).trans h.blk
    rcases row_not_x h.views h.blk h.hT.2.2 with h3 | h3
    · rw [h3]; intro e; cases e
    · intro e; exact h3 e.symm
  have r1 := World.ownsRow.kept h.nodes h2.grown (rows_apart h.nodes h.views (by decide))
  have r2 := World.ownsRow.kept h.vips h2.grown (rows_apart h.vips h.views (by decide))
  refine ⟨hb, blk_set hb 2 nv', h.hx, h.hT, row_set r1 hb h.hT.1 2 nv', row_set r2 hb h.hT.2.1 2 nv', ?_⟩
  have h3 := row_set h1 hb h.hT.2.2 2 nv'
  simpa [List.length_append] using h3
end
/-! ### The reader: two maps. -/
def seenF (c : Cfg) (y : List UInt8) : Bool := if y = wFactor then c.fs else if y = wDomain then c.ds else false
structure RdC (w : World) (base x mb ma : Nat) (c : Cfg) (nv vv wv : Value) : Prop where
  cfg : CfgAt w base x 93 (.map (some mb)) (.map (some ma)) c nv vv wv
  hb : base ≤ mb
  ha : base ≤ ma
  ne : mb ≠ ma
  seen : MapB w mb (c.fs.toNat + c.ds.toNat) (seenF c)
  names : MapI w ma c.nodes.length (atN c.nodes)
def RdAt (base x : Nat) (w : World) (c : Cfg) : Prop := ∃ mb ma nv vv wv, RdC w base x mb ma c nv vv wv
def LineEnd (P : World → Cfg → Prop) (base : Nat) (r : Except Nat Cfg) (w w' : World) (e : Ending) : Prop :=
  (∃ n, r = .error n ∧ 0 < n ∧ e = .returned (.int .i64 (n : Int)) ∧ Below w.heap.size w w') ∨ (∃ c, r = .ok c ∧ e = .returned (.int .i64 0) ∧ P w' c ∧ Below base w w')
section
variable {w w' : World} {base x mb ma : Nat} {nv vv wv nv' : Value} {c c' : Cfg}
theorem RdC.on (h : RdC w base x mb ma c nv vv wv) (hb : Below w.heap.size w w') : RdC w' base x mb ma c nv vv wv :=
  ⟨h.cfg.on hb, h.hb, h.ha, h.ne, h.seen.kept (row := none) ⟨hb.os, hb.tape, hb.output, hb.size, fun k hk _ => hb.block k hk⟩ (by simp), h.names.kept (row := none) ⟨hb.os, hb.tape, hb.output, hb.size, fun k hk _ => hb.block k hk⟩ (by simp)⟩
theorem x_not_map {es : Array MapEntry} {k m : Nat} {cs : Array Value} {T : TypeId} {fr : Nat × Nat} (h : w.heap[x]? = some (.cells cs T fr)) (hm : w.heap[m]? = some (.map es k)) : m ≠ x := by
  rintro rfl
  rw [h] at hm
  cases hm
theorem RdC.set (h : RdC w base x mb ma c nv vv wv) (i : Nat) (u : Value) (hA : (cfgA c nv vv wv (.map (some mb)) (.map (some ma))).setIfInBounds i u = cfgA c' nv vv wv (.map (some mb)) (.map (some ma))) (h1 : c'.nodes = c.nodes) (h2 : c'.vips = c.vips) (h3 : c'.views = c.views) (h4 : c'.fs = c.fs) (h5 : c'.ds = c.ds) :
    RdC (w.setCell ⟨x, i, none⟩ u) base x mb ma c' nv vv wv := by
  obtain ⟨w2, g1, g2, g3⟩ := store_cell h.cfg.blk i u
  have hc := h.cfg.set (c' := c') i u hA h1 h2 h3
  rw [g1] at hc ⊢
  obtain ⟨es, k, hm⟩ := h.seen.blk
  obtain ⟨es', k', hm'⟩ := h.names.blk
  refine ⟨hc, h.hb, h.ha, h.ne, ?_, ?_⟩
  · rw [show seenF c' = seenF c by funext y; unfold seenF; rw [h4, h5], h4, h5]
    exact h.seen.kept g3 (by intro e; exact x_not_map h.cfg.blk hm (by simpa using e))
  · rw [h1]
    exact h.names.kept g3 (by intro e; exact x_not_map h.cfg.blk hm' (by simpa using e))
theorem RdC.below_set (h : RdC w base x mb ma c nv vv wv) (i : Nat) (u : Value) : Below base w (w.setCell ⟨x, i, none⟩ u) := (Below.refl _ _).setCell h.cfg.hx u
theorem below_of_map {m : Nat} (hg : w.grownBy w' (some m)) (h1 : base ≤ m) : Below base w w' ∨ w.heap.size < base := by
  rcases Nat.lt_or_ge w.heap.size base with h | h
  · exact .inr h
  · exact .inl (below_of_grown hg h fun k hk => by cases hk; exact h1)
end
/-- Words where they lie. -/
theorem words_at {w : World} {base : Nat} {A : Option Addr} {ws : List (List UInt8)} (h : IsR strv w base A ws.length ws) (h0 : 0 < ws.length) : ∃ b off, A = some ⟨b, off, none⟩ ∧ b < base ∧ ∀ i, i < ws.length → w.cell? ⟨b, off + i, none⟩ = some (.string (str (wd ws i))) := by
  obtain ⟨b, off, e, hb, hc⟩ := h.2 h0
  refine ⟨b, off, e, hb, fun i hi => ?_⟩
  have h1 := hc i (by rw [List.length_map]; exact hi)
  rw [List.getElem_map] at h1
  rw [h1, wd_get (List.getElem?_eq_getElem hi)]
  rfl
end Conf18
end Go.Proofs.YtcpokkkdmenmgaaDoor
/- conf: the reader in memory: what each change leaves. No condition. -/
namespace Go.Proofs.YtcpokkkdmenmgaaDoor
open Go.RowKit Go.ChangeShapes Go.WideShapes Go.ChangeAt Go.Deep
namespace Conf18
open Addr05 (Adr strv MaxAt)
theorem vwC_one (v : Vw) : ∀ u ∈ vwC v, u.oneCell' = true := by
  intro u hu
  simp only [vwC, List.mem_cons, List.not_mem_nil, or_false] at hu
  rcases hu with rfl | rfl | rfl | rfl | rfl <;> rfl
theorem vpC_one (v : Vp) : ∀ u ∈ vpC v, u.oneCell' = true := by
  intro u hu
  simp only [vpC, List.mem_cons, List.not_mem_nil, or_false] at hu
  rcases hu with rfl | rfl | rfl | rfl | rfl | rfl | rfl <;> rfl
theorem ndC_one (v : Nd) : ∀ u ∈ ndC v, u.oneCell' = true := by
  intro u hu
  simp only [ndC, List.mem_cons, List.not_mem_nil, or_false] at hu
  rcases hu with rfl | rfl | rfl | rfl | rfl | rfl | rfl <;> rfl
section
variable {w w' : World} {base x mb ma : Nat} {nv vv wv nv' : Value} {c c' : Cfg}
theorem RdC.xlt (h : RdC w base x mb ma c nv vv wv) : x < w.heap.size := lt_of_blk h.cfg.blk
theorem RdC.mlt (h : RdC w base x mb ma c nv vv wv) : mb < w.heap.size ∧ ma < w.heap.size := by
  obtain ⟨_, _, h1⟩ := h.seen.blk
  obtain ⟨_, _, h2⟩ := h.names.blk
  constructor
  · rcases Nat.lt_or_ge mb w.heap.size with h3 | h3
    · exact h3
    · rw [Array.getElem?_eq_none h3] at h1; cases h1
  · rcases Nat.lt_or_ge ma w.heap.size with h3 | h3
    · exact h3
    · rw [Array.getElem?_eq_none h3] at h2; cases h2
/-- A word is seen. -/
theorem RdC.once (h : RdC w base x mb ma c nv vv wv) {g : List UInt8 → Bool} (hg : w.grownBy w' (some mb)) (hM : MapB w' mb (c'.fs.toNat + c'.ds.toNat) g) (hs : g = seenF c') (e1 : c'.nodes = c.nodes) (hc : CfgAt w base x 93 (.map (some mb)) (.map (some ma)) c' nv vv wv) : RdC w' base x mb ma c' nv vv wv :=
  ⟨hc.kept_map (by obtain ⟨es, k, h1⟩ := h.seen.blk; exact ⟨es, k, h1⟩) hg, h.hb, h.ha, h.ne, hs ▸ hM, by rw [e1]; exact h.names.kept hg (by intro e; exact h.ne (Option.some.inj e).symm)⟩
theorem RdC.as {c' : Cfg} (h : CfgAt w base x 93 (.map (some mb)) (.map (some ma)) c nv vv wv) (hA : cfgA c' nv vv wv (.map (some mb)) (.map (some ma)) = cfgA c nv vv wv (.map (some mb)) (.map (some ma))) (h1 : c'.nodes = c.nodes) (h2 : c'.vips = c.vips) (h3 : c'.views = c.views) :
    CfgAt w base x 93 (.map (some mb)) (.map (some ma)) c' nv vv wv :=
  ⟨by rw [hA]; exact h.blk, h.hx, h.hT, by rw [h1]; exact h.nodes, by rw [h2]; exact h.vips, by rw [h3]; exact h.views⟩
theorem RdC.pushV {vp : Vp} (h : RdC w base x mb ma c nv vv wv) (h1 : w'.ownsRow base 77 7 nv' (c.vips.length + 1) ((c.vips.map vpC).flatten ++ vpC vp)) (h2 : Grew w vv w' nv') :
    w'.heap[x]? = some (.cells (cfgA c nv vv wv (.map (some mb)) (.map (some ma))) 93 (0, 0)) ∧ RdC (w'.setCell ⟨x, 1, none⟩ nv') base x mb ma { c with vips := c.vips ++ [vp] } nv nv' wv := by
  obtain ⟨h3, h4⟩ := h.cfg.pushV h1 h2
  obtain ⟨w2, g1, g2, g3⟩ := store_cell h3 1 nv'
  refine ⟨h3, ?_⟩
  rw [g1] at h4 ⊢
  obtain ⟨es, k, hm⟩ := h.seen.blk
  obtain ⟨es', k', hm'⟩ := h.names.blk
  have a1 := h.seen.kept h2.grown (by rcases row_not_map h.cfg.vips hm with e | e <;> (intro e2; first | (rw [e] at e2; cases e2) | exact e e2.symm))
  have a2 := h.names.kept h2.grown (by rcases row_not_map h.cfg.vips hm' with e | e <;> (intro e2; first | (rw [e] at e2; cases e2) | exact e e2.symm))
  exact ⟨h4, h.hb, h.ha, h.ne, a1.kept g3 (by intro e; exact x_not_map h.cfg.blk hm (by simpa using e)), a2.kept g3 (by intro e; exact x_not_map h.cfg.blk hm' (by simpa using e))⟩
theorem RdC.pushW {vw : Vw} (h : RdC w base x mb ma c nv vv wv) (h1 : w'.ownsRow base 82 5 nv' (c.views.length + 1) ((c.views.map vwC).flatten ++ vwC vw)) (h2 : Grew w wv w' nv') :
    w'.heap[x]? = some (.cells (cfgA c nv vv wv (.map (some mb)) (.map (some ma))) 93 (0, 0)) ∧ RdC (w'.setCell ⟨x, 2, none⟩ nv') base x mb ma { c with views := c.views ++ [vw] } nv vv nv' := by
  obtain ⟨h3, h4⟩ := h.cfg.pushW h1 h2
  obtain ⟨w2, g1, g2, g3⟩ := store_cell h3 2 nv'
  refine ⟨h3, ?_⟩
  rw [g1] at h4 ⊢
  obtain ⟨es, k, hm⟩ := h.seen.blk
  obtain ⟨es', k', hm'⟩ := h.names.blk
  have a1 := h.seen.kept h2.grown (by rcases row_not_map h.cfg.views hm with e | e <;> (intro e2; first | (rw [e] at e2; cases e2) | exact e e2.symm))
  have a2 := h.names.kept h2.grown (by rcases row_not_map h.cfg.views hm' with e | e <;> (intro e2; first | (rw [e] at e2; cases e2) | exact e e2.symm))
  exact ⟨h4, h.hb, h.ha, h.ne, a1.kept g3 (by intro e; exact x_not_map h.cfg.blk hm (by simpa using e)), a2.kept g3 (by intro e; exact x_not_map h.cfg.blk hm' (by simpa using e))⟩
/-- A node's name is known: the map says more than the nodes. -/
structure RdN (w : World) (base x mb ma : Nat) (c : Cfg) (s : List UInt8) (nv vv wv : Value) : Prop where
  cfg : CfgAt w base x 93 (.map (some mb)) (.map (some ma)) c nv vv wv
  hb : base ≤ mb
  ha : base ≤ ma
  ne : mb ≠ ma
  seen : MapB w mb (c.fs.toNat + c.ds.toNat) (seenF c)
  names : MapI w ma (c.nodes.length + 1) (fun y => if y = s then some c.nodes.length else atN c.nodes y)
theorem RdC.named (h : RdC w base x mb ma c nv vv wv) {s : List UInt8} (hg : w.grownBy w' (some ma)) (hM : MapI w' ma (c.nodes.length + 1) (fun y => if y = s then some c.nodes.length else atN c.nodes y)) : RdN w' base x mb ma c s nv vv wv :=
  ⟨h.cfg.kept_map (by obtain ⟨es, k, h1⟩ := h.names.blk; exact ⟨es, k, h1⟩) hg, h.hb, h.ha, h.ne, h.seen.kept hg (by intro e; exact h.ne (Option.some.inj e)), hM⟩
theorem RdN.on {s : List UInt8} (h : RdN w base x mb ma c s nv vv wv) (hb : Below w.heap.size w w') : RdN w' base x mb ma c s nv vv wv :=
  ⟨h.cfg.on hb, h.hb, h.ha, h.ne, h.seen.kept (row := none) ⟨hb.os, hb.tape, hb.output, hb.size, fun k hk _ => hb.block k hk⟩ (by simp), h.names.kept (row := none) ⟨hb.os, hb.tape, hb.output, hb.size, fun k hk _ => hb.block k hk⟩ (by simp)⟩
theorem atN_snoc (ns : List Nd) (nd : Nd) (h : atN ns nd.name = none) : atN (ns ++ [nd]) = fun y => if y = nd.name then some ns.length else atN ns y := by
  funext y
  unfold atN at h ⊢
  rw [List.findIdx?_append]
  by_cases e : y = nd.name
  · subst e
    rw [h, if_pos rfl]
    simp [List.findIdx?_cons]
  · rw [if_neg e]
    have : List.findIdx? (fun n : Nd => decide (n.name = y)) [nd] = none := by
      simp [List.findIdx?_cons]
      exact fun e2 => e e2.symm
    rw [this]
    simp
theorem RdN.pushN {nd : Nd} (h : RdN w base x mb ma c nd.name nv vv wv) (hn : atN c.nodes nd.name = none) (h1 : w'.ownsRow base 72 7 nv' (c.nodes.length + 1) ((c.nodes.map ndC).flatten ++ ndC nd)) (h2 : Grew w nv w' nv') :
    w'.heap[x]? = some (.cells (cfgA c nv vv wv (.map (some mb)) (.map (some ma))) 93 (0, 0)) ∧ RdC (w'.setCell ⟨x, 0, none⟩ nv') base x mb ma { c with nodes := c.nodes ++ [nd] } nv' vv wv := by
  obtain ⟨h3, h4⟩ := h.cfg.pushN h1 h2
  obtain ⟨w2, g1, g2, g3⟩ := store_cell h3 0 nv'
  refine ⟨h3, ?_⟩
  rw [g1] at h4 ⊢
  obtain ⟨es, k, hm⟩ := h.seen.blk
  obtain ⟨es', k', hm'⟩ := h.names.blk
  have a1 := h.seen.kept h2.grown (by rcases row_not_map h.cfg.nodes hm with e | e <;> (intro e2; first | (rw [e] at e2; cases e2) | exact e e2.symm))
  have a2 := h.names.kept h2.grown (by rcases row_not_map h.cfg.nodes hm' with e | e <;> (intro e2; first | (rw [e] at e2; cases e2) | exact e e2.symm))
  refine ⟨h4, h.hb, h.ha, h.ne, a1.kept g3 (by intro e; exact x_not_map h.cfg.blk hm (by simpa using e)), ?_⟩
  have a3 := a2.kept g3 (by intro e; exact x_not_map h.cfg.blk hm' (by simpa using e))
  rw [atN_snoc _ _ hn, List.length_append]
  exact a3
end
end Conf18
end Go.Proofs.YtcpokkkdmenmgaaDoor
/- conf: factor, domain: a line that sets a number. Conditions: words of at most 2^16 bytes. -/
namespace Go.Proofs.YtcpokkkdmenmgaaDoor
open Go.RowKit Go.ChangeShapes Go.WideShapes Go.ChangeAt Go.Deep
namespace Conf18
open Addr05 (Adr strv MaxAt)
theorem lexV_none : lexV none = .tuple #[.int .i64 0, .bool false] := rfl
theorem lexV_some (n : Nat) : lexV (some n) = .tuple #[.int .i64 (n : Int), .bool true] := rfl
theorem ne_nat {n k : Nat} (h : n ≠ k) : (((n : Int) != ((k : Nat) : Int)) : Bool) = true := by
  rw [bne_iff_ne]
  omega
theorem two_words {α : Type} {l : List α} (h : l.length = 2) : ∃ a b, l = [a, b] := by
  match l, h with
  | [a, b], _ => exact ⟨a, b, rfl⟩
theorem three_words {α : Type} {l : List α} (h : l.length = 3) : ∃ a b c, l = [a, b, c] := by
  match l, h with
  | [a, b, c], _ => exact ⟨a, b, c, rfl⟩
theorem lineEnd_err {P : World → Cfg → Prop} {base : Nat} {r : Except Nat Cfg} {w w' : World} {n : Nat} (hr : r = .error n) (h0 : 0 < n) (hb : Below w.heap.size w w') : LineEnd P base r w w' (.returned (.int .i64 (n : Int))) := .inl ⟨n, hr, h0, rfl, hb⟩
theorem lineEnd_ok {P : World → Cfg → Prop} {base : Nat} {r : Except Nat Cfg} {w w' : World} {c : Cfg} (hr : r = .ok c) (hP : P w' c) (hb : Below base w w') : LineEnd P base r w w' (.returned (.int .i64 0)) := .inr ⟨c, hr, rfl, hP, hb⟩
theorem seen_fs (c : Cfg) : seenF c wFactor = c.fs := by unfold seenF; rw [if_pos rfl]
theorem seen_ds (c : Cfg) : seenF c wDomain = c.ds := by unfold seenF; rw [if_neg (by decide), if_pos rfl]
set_option maxRecDepth 20000 in
set_option maxHeartbeats 8000000 in
theorem factor_any (ws : List (List UInt8)) (c : Cfg) (w : World) (base x k : Nat) (A : Option Addr) (hx : IsR strv w base A ws.length ws) (hl : ∀ y ∈ ws, y.length ≤ 65536) (hR : RdAt base x w c) :
    Calls Tryd.prog 57 #[.pointer (some ⟨x, 0, none⟩), .slice A ws.length k] w fun e w' => LineEnd (RdAt base x) base (factorF c ws) w w' e := by
  obtain ⟨r, hr⟩ : ∃ r, factorF c ws = r := ⟨_, rfl⟩
  rw [hr]
  by_cases hn : ws.length = 2
  · obtain ⟨y0, y1, rfl⟩ := two_words hn
    obtain ⟨b, off, rfl, hb, hc⟩ := words_at hx (by simp)
    have c1 : w.cell? ⟨b, off + 1, none⟩ = some (.string (str y1)) := hc 1 (by simp)
    have q := lexNum_any y1 (Nat.le_trans (hl y1 (by simp)) (by decide)) 1000 w
    unfold factorF at hr
    rw [if_neg (by simp), show wd [y0, y1] 1 = y1 from rfl] at hr
    change Calls Tryd.prog _ #[_, .slice _ 2 _] w _
    obtain ⟨mb, ma, nv, vv, wv, h⟩ := hR
    rcases hq : lexF y1 1000 with _ | n
    · rw [hq] at hr q
      rw [lexV_none] at q
      clear hn hx hl hc hq
      replace h := hide h
      replace hr := hide hr
      replace q := hide q
      go_enter Tryd.func57, Tryd.ntmps57
      go_wp2_with fail
      refine (q.out).mono ?_
      rintro e w1 ⟨rfl, rfl⟩
      go_wp2_with fail
      go_ret
      exact lineEnd_err hr.out.symm (by decide) (Below.refl _ _)
    · rw [hq] at hr q
      rw [lexV_some] at q
      dsimp only at hr
      clear hn hx hl hc hq
      by_cases hlt : n < 100
      · rw [if_pos hlt] at hr
        have t : (n : Int) < 100 := by omega
        replace h := hide h
        replace hr := hide hr
        replace q := hide q
        replace hlt := hide hlt
        go_enter Tryd.func57, Tryd.ntmps57
        go_wp2_with fail
        refine (q.out).mono ?_
        rintro e w1 ⟨rfl, rfl⟩
        go_wp2_with fail
        go_ret
        exact lineEnd_err hr.out.symm (by decide) (Below.refl _ _)
      · rw [if_neg hlt] at hr
        have t : ¬ (n : Int) < 100 := by omega
        have q2 := once_any wFactor (by decide) w x mb (c.fs.toNat + c.ds.toNat) (seenF c) (by cases c.fs <;> cases c.ds <;> decide) (blk_cell h.cfg.blk 11) h.seen
        rw [seen_fs] at q2
        unfold wFactor at q2
        have hbx := h.cfg.hx
        have hxs := h.xlt
        obtain ⟨f, hf⟩ : ∃ f, c.fs = f := ⟨_, rfl⟩
        rw [hf] at hr q2
        have hM2 : ∀ w2, MapB w2 mb (f.toNat + c.ds.toNat + 1) (fun z => if z = [102, 97, 99, 116, 111, 114] then true else seenF c z) → f = false → MapB w2 mb (({ c with fs := true } : Cfg).fs.toNat + ({ c with fs := true } : Cfg).ds.toNat) (seenF { c with fs := true }) := by
          intro w2 h1 h2
          subst h2
          have e : (fun z => if z = [102, 97, 99, 116, 111, 114] then true else seenF c z) = seenF { c with fs := true } := by
            funext z
            unfold seenF
            by_cases e1 : z = [102, 97, 99, 116, 111, 114]
            · subst e1; rfl
            · rw [if_neg e1, if_neg (show ¬ z = wFactor from e1), if_neg (show ¬ z = wFactor from e1)]
          rw [e] at h1
          have e3 : false.toNat + c.ds.toNat + 1 = ({ c with fs := true } : Cfg).fs.toNat + ({ c with fs := true } : Cfg).ds.toNat := by
            cases c.ds <;> rfl
          rw [e3] at h1
          exact h1
        cases f
        · rw [if_neg (by simp)] at hr
          replace h := hide h
          replace hr := hide hr
          replace q := hide q
          replace q2 := hide q2
          replace hlt := hide hlt
          replace hf := hide hf
          replace hM2 := hide hM2
          go_enter Tryd.func57, Tryd.ntmps57
          go_wp2_with fail
          refine (q.out).mono ?_
          rintro e w1 ⟨rfl, rfl⟩
          go_wp2_with fail
          refine (q2.out).mono ?_
          rintro e w2 ⟨rfl, -, h2⟩
          obtain ⟨hM, hg⟩ := h2 trivial
          have hb2 := below_of_grown (base := base) hg (by omega) (fun k hk => by cases hk; exact h.out.hb)
          have h2' : RdC w2 base x mb ma { c with fs := true } nv vv wv := h.out.once (c' := { c with fs := true }) hg (hM2.out w2 hM trivial) rfl rfl (RdC.as h.out.cfg rfl rfl rfl rfl)
          have h3 := h2'.set (c' := { c with fs := true, factor := (n : Int) }) 3 (.int .i64 (n : Int)) rfl rfl rfl rfl rfl rfl
          have hb3 := h2'.below_set 3 (.int .i64 (n : Int))
          have hc3 := blk_cell h2'.cfg.blk 3
          have hf3 := blk_free h2'.cfg.blk 3
          clear hM hg h2 q q2 h2' h
          replace hb2 := hide hb2
          replace h3 := hide h3
          replace hb3 := hide hb3
          go_wp2_with fail
          go_ret
          exact lineEnd_ok hr.out.symm ⟨mb, ma, nv, vv, wv, h3.out⟩ (hb2.out.trans hb3.out)
        · rw [if_pos rfl] at hr
          replace h := hide h
          replace hr := hide hr
          replace q := hide q
          replace q2 := hide q2
          replace hlt := hide hlt
          replace hf := hide hf
          replace hM2 := hide hM2
          go_enter Tryd.func57, Tryd.ntmps57
          go_wp2_with fail
          refine (q.out).mono ?_
          rintro e w1 ⟨rfl, rfl⟩
          go_wp2_with fail
          refine (q2.out).mono ?_
          rintro e w2 ⟨rfl, h2, -⟩
          obtain rfl := h2 trivial
          go_wp2_with fail
          go_ret
          exact lineEnd_err hr.out.symm (by decide) (Below.refl _ _)
  · have t : ((ws.length : Int) != 2) = true := ne_nat (k := 2) hn
    unfold factorF at hr
    rw [if_pos hn] at hr
    clear hn hx hl
    replace hR := hide hR
    replace hr := hide hr
    go_enter Tryd.func57, Tryd.ntmps57
    go_wp2_with fail
    go_ret
    exact lineEnd_err hr.out.symm (by decide) (Below.refl _ _)
theorem cast_kind (y : List UInt8) : (kindF y : Int) = ((kindF y : Nat) : Int) := rfl
set_option maxRecDepth 20000 in
set_option maxHeartbeats 8000000 in
theorem domain_any (ws : List (List UInt8)) (c : Cfg) (w : World) (base x k : Nat) (A : Option Addr) (hx : IsR strv w base A ws.length ws) (hR : RdAt base x w c) :
    Calls Tryd.prog 58 #[.pointer (some ⟨x, 0, none⟩), .slice A ws.length k] w fun e w' => LineEnd (RdAt base x) base (domainF c ws) w w' e := by
  obtain ⟨r, hr⟩ : ∃ r, domainF c ws = r := ⟨_, rfl⟩
  rw [hr]
  by_cases hn : ws.length = 2
  · obtain ⟨y0, y1, rfl⟩ := two_words hn
    obtain ⟨b, off, rfl, hb, hc⟩ := words_at hx (by simp)
    have c1 : w.cell? ⟨b, off + 1, none⟩ = some (.string (str y1)) := hc 1 (by simp)
    unfold domainF at hr
    rw [show wd [y0, y1] 1 = y1 from rfl] at hr
    change Calls Tryd.prog _ #[_, .slice _ 2 _] w _
    obtain ⟨mb, ma, nv, vv, wv, h⟩ := hR
    have t1 := eqw y1 [122, 111, 110, 101]
    have t2 := eqw y1 [114, 97, 99, 107]
    clear hn hx hc
    by_cases hok : y1 = wZone ∨ y1 = wRack
    · have hno : ¬ ([y0, y1].length ≠ 2 ∨ (y1 ≠ wZone ∧ y1 ≠ wRack)) := by
        rintro (h1 | ⟨h1, h2⟩)
        · exact h1 rfl
        · rcases hok with h3 | h3
          · exact h1 h3
          · exact h2 h3
      rw [if_neg hno] at hr
      have q2 := once_any wDomain (by decide) w x mb (c.fs.toNat + c.ds.toNat) (seenF c) (by cases c.fs <;> cases c.ds <;> decide) (blk_cell h.cfg.blk 11) h.seen
      rw [seen_ds] at q2
      unfold wDomain at q2
      have hbx := h.cfg.hx
      have hxs := h.xlt
      obtain ⟨d, hd⟩ : ∃ d, c.ds = d := ⟨_, rfl⟩
      rw [hd] at hr q2
      have hM2 : ∀ w2, MapB w2 mb (c.fs.toNat + d.toNat + 1) (fun z => if z = [100, 111, 109, 97, 105, 110] then true else seenF c z) → d = false → MapB w2 mb (({ c with ds := true } : Cfg).fs.toNat + ({ c with ds := true } : Cfg).ds.toNat) (seenF { c with ds := true }) := by
        intro w2 h1 h2
        subst h2
        have e : (fun z => if z = [100, 111, 109, 97, 105, 110] then true else seenF c z) = seenF { c with ds := true } := by
          funext z
          unfold seenF
          by_cases e1 : z = [100, 111, 109, 97, 105, 110]
          · subst e1; rw [if_pos rfl, if_neg (by decide), if_pos (by rfl)]
          · rw [if_neg e1]
            by_cases e2 : z = wFactor
            · rw [if_pos e2, if_pos e2]
            · rw [if_neg e2, if_neg e2, if_neg (show ¬ z = wDomain from e1), if_neg (show ¬ z = wDomain from e1)]
        rw [e] at h1
        exact h1
      rcases hok with hz | hz
      · subst hz
        rw [decide_eq_true (by rfl)] at t1
        rw [decide_eq_false (by decide)] at t2
        have qk := fun w => kind_any wZone w
        rw [show kindF wZone = 2 from rfl] at qk hr
        cases d
        · rw [if_neg (by simp)] at hr
          replace h := hide h
          replace hr := hide hr
          replace q2 := hide q2
          replace qk := hide qk
          replace hM2 := hide hM2
          replace hd := hide hd
          go_enter Tryd.func58, Tryd.ntmps58
          go_wp2_with fail
          refine (q2.out).mono ?_
          rintro e w2 ⟨rfl, -, h2⟩
          obtain ⟨hM, hg⟩ := h2 trivial
          have hb2 := below_of_grown (base := base) hg (by omega) (fun k hk => by cases hk; exact h.out.hb)
          have h2' : RdC w2 base x mb ma { c with ds := true } nv vv wv := h.out.once (c' := { c with ds := true }) hg (hM2.out w2 hM trivial) rfl rfl (RdC.as h.out.cfg rfl rfl rfl rfl)
          have h3 := h2'.set (c' := { c with ds := true, domain := 2 }) 4 (.int .i64 2) rfl rfl rfl rfl rfl rfl
          have hb3 := h2'.below_set 4 (.int .i64 2)
          have hc3 := blk_cell h2'.cfg.blk 4
          have hf3 := blk_free h2'.cfg.blk 4
          have c1' := (hb2.cell (p := ⟨b, off + 1, none⟩) hb).trans c1
          clear hM hg h2 q2 h2' h hM2
          replace hb2 := hide hb2
          replace h3 := hide h3
          replace hb3 := hide hb3
          go_wp2_with fail
          refine (qk.out _).mono ?_
          rintro e w3 ⟨rfl, rfl⟩
          go_wp2_with fail
          go_ret
          exact lineEnd_ok hr.out.symm ⟨mb, ma, nv, vv, wv, h3.out⟩ (hb2.out.trans hb3.out)
        · rw [if_pos rfl] at hr
          replace h := hide h
          replace hr := hide hr
          replace q2 := hide q2
          replace qk := hide qk
          replace hM2 := hide hM2
          replace hd := hide hd
          go_enter Tryd.func58, Tryd.ntmps58
          go_wp2_with fail
          refine (q2.out).mono ?_
          rintro e w2 ⟨rfl, h2, -⟩
          obtain rfl := h2 trivial
          go_wp2_with fail
          go_ret
          exact lineEnd_err hr.out.symm (by decide) (Below.refl _ _)
      · subst hz
        rw [decide_eq_false (by decide)] at t1
        rw [decide_eq_true (by rfl)] at t2
        have qk := fun w => kind_any wRack w
        rw [show kindF wRack = 3 from rfl] at qk hr
        cases d
        · rw [if_neg (by simp)] at hr
          replace h := hide h
          replace hr := hide hr
          replace q2 := hide q2
          replace qk := hide qk
          replace hM2 := hide hM2
          replace hd := hide hd
          go_enter Tryd.func58, Tryd.ntmps58
          go_wp2_with fail
          refine (q2.out).mono ?_
          rintro e w2 ⟨rfl, -, h2⟩
          obtain ⟨hM, hg⟩ := h2 trivial
          have hb2 := below_of_grown (base := base) hg (by omega) (fun k hk => by cases hk; exact h.out.hb)
          have h2' : RdC w2 base x mb ma { c with ds := true } nv vv wv := h.out.once (c' := { c with ds := true }) hg (hM2.out w2 hM trivial) rfl rfl (RdC.as h.out.cfg rfl rfl rfl rfl)
          have h3 := h2'.set (c' := { c with ds := true, domain := 3 }) 4 (.int .i64 3) rfl rfl rfl rfl rfl rfl
          have hb3 := h2'.below_set 4 (.int .i64 3)
          have hc3 := blk_cell h2'.cfg.blk 4
          have hf3 := blk_free h2'.cfg.blk 4
          have c1' := (hb2.cell (p := ⟨b, off + 1, none⟩) hb).trans c1
          clear hM hg h2 q2 h2' h hM2
          replace hb2 := hide hb2
          replace h3 := hide h3
          replace hb3 := hide hb3
          go_wp2_with fail
          refine (qk.out _).mono ?_
          rintro e w3 ⟨rfl, rfl⟩
          go_wp2_with fail
          go_ret
          exact lineEnd_ok hr.out.symm ⟨mb, ma, nv, vv, wv, h3.out⟩ (hb2.out.trans hb3.out)
        · rw [if_pos rfl] at hr
          replace h := hide h
          replace hr := hide hr
          replace q2 := hide q2
          replace qk := hide qk
          replace hM2 := hide hM2
          replace hd := hide hd
          go_enter Tryd.func58, Tryd.ntmps58
          go_wp2_with fail
          refine (q2.out).mono ?_
          rintro e w2 ⟨rfl, h2, -⟩
          obtain rfl := h2 trivial
          go_wp2_with fail
          go_ret
          exact lineEnd_err hr.out.symm (by decide) (Below.refl _ _)
    · have h1 : y1 ≠ wZone := fun e => hok (.inl e)
      have h2 : y1 ≠ wRack := fun e => hok (.inr e)
      rw [if_pos (.inr ⟨h1, h2⟩)] at hr
      rw [decide_eq_false (show ¬ y1 = [122, 111, 110, 101] from h1)] at t1
      rw [decide_eq_false (show ¬ y1 = [114, 97, 99, 107] from h2)] at t2
      replace h := hide h
      replace hr := hide hr
      replace hok := hide hok
      replace h1 := hide h1
      replace h2 := hide h2
      go_enter Tryd.func58, Tryd.ntmps58
      go_wp2_with fail
      go_ret
      exact lineEnd_err hr.out.symm (by decide) (Below.refl _ _)
  · have t : ((ws.length : Int) != 2) = true := ne_nat (k := 2) hn
    unfold domainF at hr
    rw [if_pos (.inl hn)] at hr
    clear hn hx
    replace hR := hide hR
    replace hr := hide hr
    go_enter Tryd.func58, Tryd.ntmps58
    go_wp2_with fail
    go_ret
    exact lineEnd_err hr.out.symm (by decide) (Below.refl _ _)
end Conf18
end Go.Proofs.YtcpokkkdmenmgaaDoor
/- conf: nodes in memory, ahead of the lines that say them. No condition. -/
namespace Go.Proofs.YtcpokkkdmenmgaaDoor
open Go.RowKit Go.ChangeShapes Go.WideShapes Go.ChangeAt Go.Deep
namespace Conf18
open Addr05
theorem alloc_nd (o : Oper) (h : o.op = .alloc 72) (ρ : Operand → Value) (w : World) : (execOp ρ o).run Tryd.prog w = .ok (.value (.pointer (some ⟨w.heap.size, 0, none⟩))) (w.alloc (.cells #[.string ⟨#[]⟩, .int .i64 0, .int .i64 0, .int .i64 0, .bool false, .int .u64 0, .int .u64 0] 72)) := by
  obtain ⟨d, op, t, ps, af, g⟩ := o
  dsimp only at h
  subst h
  kernel_rfl
theorem nd_one (s : ByteArray) (k a v : Int) (v6 : Bool) (hi lo : Int) : (#[.string s, .int .i64 k, .int .i64 a, .int .i64 v, .bool v6, .int .u64 hi, .int .u64 lo] : Array Value).all (·.oneCell') = true := all_oneCell_toArray (by
  intro u hu
  simp only [List.mem_cons, List.not_mem_nil, or_false] at hu
  rcases hu with rfl | rfl | rfl | rfl | rfl | rfl | rfl <;> rfl)
theorem idx_most (k : Nat) (h1 : 1 ≤ k) (h4 : k ≤ 4) (w : World) : (Instr.index 152 (.agg #[.int .i64 0, .int .i64 2, .int .i64 4, .int .i64 4, .int .i64 5]) (.int .i64 (k : Int))).run Tryd.prog w = .ok (.int .i64 (mostF k : Int)) w := by
  rcases (by omega : k = 1 ∨ k = 2 ∨ k = 3 ∨ k = 4) with rfl | rfl | rfl | rfl <;> kernel_rfl
theorem idx_least (k : Nat) (h1 : 1 ≤ k) (h4 : k ≤ 4) (w : World) : (Instr.index 152 (.agg #[.int .i64 0, .int .i64 2, .int .i64 3, .int .i64 3, .int .i64 5]) (.int .i64 (k : Int))).run Tryd.prog w = .ok (.int .i64 (leastF k : Int)) w := by
  rcases (by omega : k = 1 ∨ k = 2 ∨ k = 3 ∨ k = 4) with rfl | rfl | rfl | rfl <;> kernel_rfl
instance isRel_below (B : Nat) : IsRel (Below B) := ⟨Below.refl B, fun _ _ _ h k => h.trans k⟩
/-- A new cell of the call's own is told otherwise. -/
theorem loc_set {w w' : World} {z : Nat} {cs cs' : Array Value} {T : TypeId} (hB : Below z w w') (hg : w'.heap[z]? = some (.cells cs T (0, 0))) (i : Nat) (v : Value) (hcs : cs.setIfInBounds i v = cs') : ∃ w2, w'.setCell ⟨z, i, none⟩ v = w2 ∧ Below z w w2 ∧ w2.heap[z]? = some (.cells cs' T (0, 0)) ∧ w2.heap.size = w'.heap.size := by
  subst hcs
  exact ⟨_, rfl, hB.setCell (p := ⟨z, i, none⟩) (Nat.le_refl _) v, blk_set hg i v, by simp [World.setCell]⟩
end Conf18
end Go.Proofs.YtcpokkkdmenmgaaDoor
