/- health: Right, New. No condition. -/
import Derived.Test.YtdneeablghlemaaGreatDoorQSnapNobody4
import Derived.Test.YtdneeablghlemaaGreatDoorQSnapNobody3
import Derived.Test.YtdneeablghlemaaGreatDoorQSnapNobody2
import Derived.ArgAppend
import Derived.Lib.AppendStr
import Derived.Lib.SlBytesConst
namespace Go.Proofs.YtdneeablghlemaaGreatDoor
open Go.RowKit Go.ChangeShapes Go.WideShapes Go.ChangeAt Go.Deep
namespace Mach33
theorem alloc_new (w : World) (o : Obj) : (w.alloc o).heap[w.heap.size]? = some o := by
  show (w.heap.push o)[w.heap.size]? = some o
  simp
structure Hr where
  e : Int
  t : Int
  r : Int
  f : Int
abbrev arrH (h : Hr) : Array Value := #[.int .i64 h.e, .int .i64 h.t, .int .i64 h.r, .int .i64 h.f]
def hrL (h : Hr) : List Value := [.int .i64 h.e, .int .i64 h.t, .int .i64 h.r, .int .i64 h.f]
def okHP (h : Hr) : Prop := 1 ≤ h.e ∧ h.e ≤ 1048576 ∧ 1 ≤ h.t ∧ h.t ≤ h.e ∧ 1 ≤ h.r ∧ h.r ≤ 100 ∧ 1 ≤ h.f ∧ h.f ≤ 100
instance (h : Hr) : Decidable (okHP h) := by unfold okHP; infer_instance
def okH (h : Hr) : Bool := decide (okHP h)
set_option maxRecDepth 20000 in
set_option maxHeartbeats 4000000 in
theorem hright_all (h : Hr) (w : World) : Calls Tryz.prog 83 #[.agg (arrH h)] w fun e w' => e = .returned (.bool (okH h)) ∧ Below w.heap.size w w' := by
  obtain ⟨R, hr⟩ : ∃ R, okH h = R := ⟨_, rfl⟩
  rw [hr]
  unfold okH okHP at hr
  obtain ⟨a, b, c, d⟩ := h
  dsimp only [arrH] at hr ⊢
  obtain ⟨w1, hw1⟩ : ∃ w1, w.alloc (.cells #[.int .i64 a, .int .i64 b, .int .i64 c, .int .i64 d] 24) = w1 := ⟨_, rfl⟩
  have hb : Below w.heap.size w w1 := hw1 ▸ (Below.refl _ _).alloc (Nat.le_refl _) _
  have hg1 : w1.heap[w.heap.size]? = some (.cells #[.int .i64 a, .int .i64 b, .int .i64 c, .int .i64 d] 24 (0, 0)) := hw1 ▸ blk_new _ _ _
  have hcg := blk_cell hg1
  clear hg1
  replace hb := hide hb
  replace hr := hide hr
  go_enter Tryz.func83, Tryz.ntmps83
  go_wp2_with fail
  all_goals
    go_ret
    refine ⟨ret_bool ?_, hb.out⟩
    rw [← hr.out]
    first
      | exact (decide_eq_false (by omega)).symm
      | exact decide_eq_decide.2 ⟨fun _ => by omega, fun _ => by omega⟩
/-- A wheel without items, as cells. -/
def whA : Array Value := (List.replicate 64 (Value.slice none 0 0) ++ [Value.int .i64 0, Value.int .i64 0]).toArray
theorem build_wh {op : Oper} (ev : Operand → Value) (ho : op.op = .build 211 #[]) (w : World) : (execOp ev op).run Tryz.prog w = .ok (.value (.agg whA)) w := by
  have h : (Instr.build 211 #[]).run Tryz.prog w = .ok (.agg whA) w := by kernel_rfl
  have h3 : ∀ A, A = #[] → Sem.run Tryz.prog (do let v ← Instr.build 211 A; pure (Next.value v)) w = .ok (.value (.agg whA)) w := by
    rintro _ rfl
    simp only [Sem.run_bind, Sem.run_pure, h, Result.andThen_ok]
  unfold execOp
  simp only [ho]
  exact h3 _ (by simp)
abbrev boA (wh : Nat) (h : Hr) (mp : Nat) : Array Value := #[.pointer (some ⟨wh, 0, none⟩), .int .i64 h.e, .int .i64 h.t, .int .i64 h.r, .int .i64 h.f, .map (some mp)]
theorem build_bo {op : Oper} (wh mp : Nat) (r : Hr) (ev : Operand → Value) (x y u : Operand) (ho : op.op = .build 166 #[(0, x), (1, y), (2, u)]) (hx : ev x = .pointer (some ⟨wh, 0, none⟩)) (hy : ev y = .agg (arrH r)) (hu : ev u = .map (some mp)) (w : World) : (execOp ev op).run Tryz.prog w = .ok (.value (.agg (boA wh r mp))) w := by
  have h : (Instr.build 166 #[(0, ev x), (1, ev y), (2, ev u)]).run Tryz.prog w = .ok (.agg (boA wh r mp)) w := by
    rw [hx, hy, hu]
    obtain ⟨a, b, c, d⟩ := r
    kernel_rfl
  have h3 : ∀ A, A = #[(0, ev x), (1, ev y), (2, ev u)] → Sem.run Tryz.prog (do let v ← Instr.build 166 A; pure (Next.value v)) w = .ok (.value (.agg (boA wh r mp))) w := by
    rintro _ rfl
    simp only [Sem.run_bind, Sem.run_pure, h, Result.andThen_ok]
  unfold execOp
  simp only [ho]
  exact h3 _ (by simp)
theorem size_hr : (Tryz.prog.info? 24).map (·.size) = some 4 := by kernel_rfl
/-- A board without hosts. -/
def BoE (w : World) (b : Nat) (h : Hr) : Prop := ∃ wh mp, w.heap[b]? = some (.cells (boA wh h mp) 166 (0, 0)) ∧ w.heap[wh]? = some (.cells whA 211 (0, 0)) ∧ w.heap[mp]? = some (.map #[] 0)
def HNew (h : Hr) (w : World) (e : Ending) (w' : World) : Prop := ((okH h = true ∧ ∃ b, e = .returned (.tuple #[.pointer (some ⟨b, 0, none⟩), .int .i64 0]) ∧ BoE w' b h ∧ w.heap.size ≤ b) ∨ (okH h = false ∧ e = .returned (.tuple #[.pointer none, .int .i64 1]))) ∧ Below w.heap.size w w'
set_option maxRecDepth 20000 in
set_option maxHeartbeats 4000000 in
theorem hnew_all (h : Hr) (w : World) : Calls Tryz.prog 45 #[.agg (arrH h)] w fun e w' => HNew h w e w' := by
  have hmm := @run_makeMap Tryz.prog
  have qr := fun w => hright_all h w
  obtain ⟨B, hB⟩ : ∃ B, okH h = B := ⟨_, rfl⟩
  rw [hB] at qr
  obtain ⟨w1, hw1⟩ : ∃ w1, w.alloc (.cells (arrH h) 24) = w1 := ⟨_, rfl⟩
  have hb1 : Below w.heap.size w w1 := hw1 ▸ (Below.refl _ _).alloc (Nat.le_refl _) _
  have hg1 : w1.heap[w.heap.size]? = some (.cells (arrH h) 24 (0, 0)) := hw1 ▸ blk_new _ _ _
  obtain ⟨z, hz⟩ : ∃ z, w.heap.size = z := ⟨_, rfl⟩
  rw [hz] at hb1 hg1
  have hzl := (Array.getElem?_eq_some_iff.1 hg1).1
  have lr : w1.rangeAt z 0 (hrL h) := blk_range (cs := arrH h) hg1
  replace qr := hide qr
  replace hb1 := hide hb1
  replace hg1 := hide hg1
  replace lr := hide lr
  replace hB := hide hB
  go_enter Tryz.func45, Tryz.ntmps45
  go_upto_region 1 with fail
  clear hw1
  apply wp_region_lit
  refine wpList_load_mid rfl 24 (.tmp 1) rfl z 0 rfl (hrL h) _ lr.out Tryz.underlying24 rfl size_hr ?_
  refine wpList_plain rfl fun K hK => ?_
  go_simp
  refine ((qr.out w1)).mono ?_
  rintro e w2 ⟨rfl, hb2⟩
  go_simp
  refine hK _ _ ?_
  clear hK K
  iterate 1 (refine wpList_plain rfl fun K hK => ?_; go_simp; refine hK _ _ ?_; clear hK K)
  refine wpList_nil ?_
  go_simp
  have hg2 := blk_on hb2 hg1.out
  have hB2 := hb1.out.trans (hb2.mono (by omega))
  have hz2 := hb2.size
  clear hb1 hg1 lr hb2 qr
  replace hB2 := hide hB2
  rcases B with _ | _
  · have hfin : HNew h w (.returned (.tuple #[.pointer none, .int .i64 1])) w2 := ⟨.inr ⟨hB.out, rfl⟩, by rw [hz]; exact hB2.out⟩
    clear hg2
    replace hfin := hide hfin
    go_wp2_with fail
    go_ret2
    exact hfin.out
  obtain ⟨w3, hw3⟩ : ∃ w3, w2.alloc (.cells whA 211) = w3 := ⟨_, rfl⟩
  have hb3 : Below w2.heap.size w2 w3 := hw3 ▸ (Below.refl _ _).alloc (Nat.le_refl _) _
  have hg3 : w3.heap[w2.heap.size]? = some (.cells whA 211 (0, 0)) := hw3 ▸ blk_new _ _ _
  have hr3 := blk_on hb3 hg2
  have lr : w3.rangeAt z 0 (hrL h) := blk_range (cs := arrH h) hr3
  obtain ⟨w4, hw4⟩ : ∃ w4, w3.alloc (.map #[] 0) = w4 := ⟨_, rfl⟩
  have hb4 : Below w3.heap.size w3 w4 := hw4 ▸ (Below.refl _ _).alloc (Nat.le_refl _) _
  have hm4 : w4.heap[w3.heap.size]? = some (.map #[] 0) := hw4 ▸ alloc_new _ _
  obtain ⟨w5, hw5⟩ : ∃ w5, w4.alloc (.cells (boA w2.heap.size h w3.heap.size) 166) = w5 := ⟨_, rfl⟩
  have hb5 : Below w4.heap.size w4 w5 := hw5 ▸ (Below.refl _ _).alloc (Nat.le_refl _) _
  have hg5 : w5.heap[w4.heap.size]? = some (.cells (boA w2.heap.size h w3.heap.size) 166 (0, 0)) := hw5 ▸ blk_new _ _ _
  have hz3 := hb3.size
  have hz4 := hb4.size
  have hbo : BoE w5 w4.heap.size h := ⟨_, _, hg5, blk_on hb5 (blk_on hb4 hg3), blk_on hb5 hm4⟩
  have hB5 := ((hB2.out.trans (hb3.mono (by omega))).trans (hb4.mono (by omega))).trans (hb5.mono (by omega))
  have hle : z ≤ w4.heap.size := by omega
  obtain ⟨p4, hp4⟩ : ∃ p, w4.heap.size = p := ⟨_, rfl⟩
  rw [hp4] at hbo hle
  clear hg2 hb3 hg3 hr3 hb4 hm4 hb5 hg5 hB2 hz3 hz4
  replace hbo := hide hbo
  replace hB5 := hide hB5
  replace lr := hide lr
  go_upto_region 3 with fail
  apply wp_region_lit
  refine wpl_val (.agg whA) rfl (build_wh _ rfl w2) ?_
  iterate 1 (refine wpList_plain rfl fun K hK => ?_; go_simp; refine hK _ _ ?_; clear hK K)
  refine wpList_load_mid rfl 24 (.tmp 1) rfl z 0 rfl (hrL h) _ lr.out Tryz.underlying24 rfl size_hr ?_
  iterate 1 (refine wpList_plain rfl fun K hK => ?_; go_simp; refine hK _ _ ?_; clear hK K)
  refine wpl_val (.agg (boA w2.heap.size h w3.heap.size)) rfl (build_bo w2.heap.size w3.heap.size h _ (.tmp 8) (.tmp 9) (.tmp 10) rfl rfl rfl rfl w4) ?_
  iterate 3 (refine wpList_plain rfl fun K hK => ?_; go_simp; refine hK _ _ ?_; clear hK K)
  refine wpList_nil ?_
  go_simp
  go_wp2_with fail
  go_ret2
  exact ⟨.inl ⟨hB.out, p4, rfl, hbo.out, by omega⟩, by rw [hz]; exact hB5.out⟩
end Mach33
end Go.Proofs.YtdneeablghlemaaGreatDoor
/- store, step: New: a balancer without flows. No condition. -/
namespace Go.Proofs.YtdneeablghlemaaGreatDoor
open Go.RowKit Go.ChangeShapes Go.WideShapes Go.ChangeAt Go.Deep
namespace Mach33
structure Su where
  m : Int
  seed : Nat
  h : Hr
  r : Rl
abbrev arrS (s : Su) : Array Value := #[.int .i64 s.m, .int .u64 (s.seed : Int), .int .i64 s.h.e, .int .i64 s.h.t, .int .i64 s.h.r, .int .i64 s.h.f, .int .i64 s.r.a, .int .i64 s.r.b, .int .i64 s.r.c, .int .i64 s.r.d]
def suL (s : Su) : List Value := [.int .i64 s.m, .int .u64 (s.seed : Int), .int .i64 s.h.e, .int .i64 s.h.t, .int .i64 s.h.r, .int .i64 s.h.f, .int .i64 s.r.a, .int .i64 s.r.b, .int .i64 s.r.c, .int .i64 s.r.d]
def okS (s : Su) : Bool := okP s.m s.r && okH s.h
theorem size_su : (Tryz.prog.info? 28).map (·.size) = some 10 := by kernel_rfl
theorem snew_all (w : World) : Calls Tryz.prog 46 #[] w fun e w' => (∃ s, e = .returned (.pointer (some ⟨s, 0, none⟩))) ∧ Below w.heap.size w w' := by
  have hmm := @run_makeMap Tryz.prog
  obtain ⟨w1, hw1⟩ : ∃ w1, w.alloc (.map #[] 0) = w1 := ⟨_, rfl⟩
  have hb1 : Below w.heap.size w w1 := hw1 ▸ (Below.refl _ _).alloc (Nat.le_refl _) _
  obtain ⟨w2, hw2⟩ : ∃ w2, w1.alloc (.cells #[.pointer none, .int .i64 0, .map (some w.heap.size), .bool true] 214) = w2 := ⟨_, rfl⟩
  have hb2 : Below w1.heap.size w1 w2 := hw2 ▸ (Below.refl _ _).alloc (Nat.le_refl _) _
  have hB := hb1.trans (hb2.mono hb1.size)
  clear hb1 hb2
  replace hB := hide hB
  go_enter Tryz.func46, Tryz.ntmps46
  go_wp2_with fail
  go_ret
  exact ⟨⟨_, rfl⟩, hB.out⟩
abbrev maA (a b c p d e : Nat) (s : Su) (lv : Value) : Array Value := #[.pointer (some ⟨a, 0, none⟩), .pointer (some ⟨b, 0, none⟩), .pointer (some ⟨c, 0, none⟩), .pointer (some ⟨p, 0, none⟩), .pointer (some ⟨d, 0, none⟩), .pointer none, .map (some e), .int .i64 s.m, .int .u64 (s.seed : Int), .int .i64 s.h.e, .int .i64 s.h.t, .int .i64 s.h.r, .int .i64 s.h.f, .int .i64 s.r.a, .int .i64 s.r.b, .int .i64 s.r.c, .int .i64 s.r.d, lv]
theorem build_ma {op : Oper} (a b c p d e : Nat) (s : Su) (ev : Operand → Value) (x0 x1 x2 x3 x4 x6 x7 : Operand) (ho : op.op = .build 95 #[(0, x0), (1, x1), (2, x2), (3, x3), (4, x4), (6, x6), (7, x7)]) (h0 : ev x0 = .pointer (some ⟨a, 0, none⟩)) (h1 : ev x1 = .pointer (some ⟨b, 0, none⟩)) (h2 : ev x2 = .pointer (some ⟨c, 0, none⟩)) (h3 : ev x3 = .pointer (some ⟨p, 0, none⟩)) (h4 : ev x4 = .pointer (some ⟨d, 0, none⟩)) (h6 : ev x6 = .map (some e)) (h7 : ev x7 = .agg (arrS s)) (w : World) : (execOp ev op).run Tryz.prog w = .ok (.value (.agg (maA a b c p d e s (.slice none 0 0)))) w := by
  have h : (Instr.build 95 #[(0, ev x0), (1, ev x1), (2, ev x2), (3, ev x3), (4, ev x4), (6, ev x6), (7, ev x7)]).run Tryz.prog w = .ok (.agg (maA a b c p d e s (.slice none 0 0))) w := by
    rw [h0, h1, h2, h3, h4, h6, h7]
    obtain ⟨m, sd, ⟨e1, e2, e3, e4⟩, ⟨r1, r2, r3, r4⟩⟩ := s
    kernel_rfl
  have hA : ∀ A, A = #[(0, ev x0), (1, ev x1), (2, ev x2), (3, ev x3), (4, ev x4), (6, ev x6), (7, ev x7)] → Sem.run Tryz.prog (do let v ← Instr.build 95 A; pure (Next.value v)) w = .ok (.value (.agg (maA a b c p d e s (.slice none 0 0)))) w := by
    rintro _ rfl
    simp only [Sem.run_bind, Sem.run_pure, h, Result.andThen_ok]
  unfold execOp
  simp only [ho]
  exact hA _ (by simp)
def cbA : Array Value := (List.replicate 29 (Value.int .i64 0)).toArray
theorem build_cb {op : Oper} (ev : Operand → Value) (ho : op.op = .build 134 #[]) (w : World) : (execOp ev op).run Tryz.prog w = .ok (.value (.agg cbA)) w := by
  have h : (Instr.build 134 #[]).run Tryz.prog w = .ok (.agg cbA) w := by kernel_rfl
  have h3 : ∀ A, A = #[] → Sem.run Tryz.prog (do let v ← Instr.build 134 A; pure (Next.value v)) w = .ok (.value (.agg cbA)) w := by
    rintro _ rfl
    simp only [Sem.run_bind, Sem.run_pure, h, Result.andThen_ok]
  unfold execOp
  simp only [ho]
  exact h3 _ (by simp)
abbrev wkA (sd : Nat) : Array Value := #[.int .u32 0, .int .i32 0, .int .u32 0, .slice none 0 0, .int .i64 0, .int .u64 (sd : Int)]
theorem build_ws {op : Oper} (sd : Nat) (ev : Operand → Value) (x : Operand) (ho : op.op = .build 151 #[(2, x)]) (hx : ev x = .int .u64 (sd : Int)) (w : World) : (execOp ev op).run Tryz.prog w = .ok (.value (.agg (wkA sd))) w := by
  have h : (Instr.build 151 #[(2, ev x)]).run Tryz.prog w = .ok (.agg (wkA sd)) w := by
    rw [hx]
    kernel_rfl
  have h3 : ∀ A, A = #[(2, ev x)] → Sem.run Tryz.prog (do let v ← Instr.build 151 A; pure (Next.value v)) w = .ok (.value (.agg (wkA sd))) w := by
    rintro _ rfl
    simp only [Sem.run_bind, Sem.run_pure, h, Result.andThen_ok]
  unfold execOp
  simp only [ho]
  exact h3 _ (by simp)
section
variable {P : Program} {Q : Act → Prop} {ops : Array Oper} {R : World → World → Prop} {w0 : World} {a : Act} {op : Oper} {rest : List Oper}
theorem wpQX_is (v : Value) (hw : Region.wanted op (yielded ops a.tmps) = true) (hv : ∀ l : RelW R w0, (execOp a.eval op).run P l.w = .ok (.value v) l.w)
    (h : wpQF P ops R w0 Q rest (a.put op.dst v)) : wpQF P ops R w0 Q (op :: rest) a := wpQX_step fun K hK => by
  rw [if_pos hw]
  refine ⟨v, fun l => ?_, hK _ h⟩
  rw [hv l]
  exact ⟨rfl, rfl⟩
theorem wpQX_row (hgd : op.guard = none) (ty : TypeId) (x : Operand) (ho : op.op = .load ty x) (b o : Nat) (hx : a.eval x = .pointer (some ⟨b, o, none⟩)) (cs : List Value) (d : TypeDesc)
    (hS : ∀ l : RelW R w0, l.w.rangeAt b o cs) (hu : P.underlying ty = some d) (hd : d.isRow = true) (hi : (P.info? ty).map (·.size) = some cs.length)
    (h : wpQF P ops R w0 Q rest (a.put op.dst (.agg cs.toArray))) : wpQF P ops R w0 Q (op :: rest) a := wpQX_step fun K hK => by
  rw [if_pos (by simp [Region.wanted, hgd])]
  refine ⟨.agg cs.toArray, fun l => ?_, hK _ h⟩
  unfold execOp
  simp only [ho, hx, Instr.loadAt, Instr.sureAddr, Sem.run_bind, Sem.run_pure, Result.andThen_ok, run_loadVar_mid l.w b o ty cs d (hS l) hu hd hi]
  exact ⟨rfl, rfl⟩
end
theorem wp_is {P : Program} {op : Oper} {a : Act} {w : World} {K : Act → World → Prop} {Q : Exit → Act → World → Prop} (v : Value) (hv : (execOp a.eval op).run P w = .ok (.value v) w) (h : K (a.put op.dst v) w) : op.wp P a w K Q := by
  unfold Oper.wp
  rw [hv]
  exact h
/-- A balancer without flows. -/
def MaE (w : World) (m : Nat) : Prop := ∃ (a b c p d e : Nat) (s : Su), w.heap[m]? = some (.cells (maA a b c p d e s (.slice none 0 0)) 95 (0, 0)) ∧ PinE w p
theorem PinE.lt {w : World} {p : Nat} (h : PinE w p) : p < w.heap.size := by
  obtain ⟨f, r, h1, h2⟩ := h
  exact lt_of_blk h1
theorem PinE.on {w w' : World} {p : Nat} (h : PinE w p) (hb : Below w.heap.size w w') : PinE w' p := by
  obtain ⟨f, r, h1, h2⟩ := h
  exact ⟨f, r, blk_on hb h1, h2.on (hb.block _ h2.lt)⟩
theorem MaE.on {w w' : World} {m : Nat} (h : MaE w m) (hb : Below w.heap.size w w') : MaE w' m := by
  obtain ⟨a, b, c, p, d, e, s, h1, h2⟩ := h
  exact ⟨a, b, c, p, d, e, s, blk_on hb h1, h2.on hb⟩
def MNew (s : Su) (w : World) (e : Ending) (w' : World) : Prop := ((okS s = true ∧ ∃ m, e = .returned (.tuple #[.pointer (some ⟨m, 0, none⟩), .int .i64 0]) ∧ MaE w' m ∧ w.heap.size ≤ m) ∨ (okS s = false ∧ e = .returned (.tuple #[.pointer none, .int .i64 1]))) ∧ Below w.heap.size w w'
set_option maxRecDepth 20000 in
set_option maxHeartbeats 16000000 in
theorem mnew_all (s : Su) (w : World) : Calls Tryz.prog 20 #[.agg (arrS s)] w fun e w' => MNew s w e w' := by
  have hmm := @run_makeMap Tryz.prog
  have qp := fun w => pnew_all s.m s.seed s.r w
  have qh := fun w => hnew_all s.h w
  have qs := fun w => snew_all w
  obtain ⟨w1, hw1⟩ : ∃ w1, w.alloc (.cells (arrS s) 28) = w1 := ⟨_, rfl⟩
  have hb1 : Below w.heap.size w w1 := hw1 ▸ (Below.refl _ _).alloc (Nat.le_refl _) _
  have hg1 : w1.heap[w.heap.size]? = some (.cells (arrS s) 28 (0, 0)) := hw1 ▸ blk_new _ _ _
  obtain ⟨z, hz0⟩ : ∃ z, w.heap.size = z := ⟨_, rfl⟩
  rw [hz0] at hb1 hg1
  have hzl := (Array.getElem?_eq_some_iff.1 hg1).1
  have cc := blk_cell hg1
  have lr : w1.rangeAt z 6 (rlL s.r) := fun i v hv => by
    rw [blk_cell hg1]
    match i, hv with
    | 0, hv => exact hv
    | 1, hv => exact hv
    | 2, hv => exact hv
    | 3, hv => exact hv
  replace qp := hide qp
  replace qh := hide qh
  replace qs := hide qs
  replace hb1 := hide hb1
  replace hg1 := hide hg1
  replace lr := hide lr
  go_enter Tryz.func20, Tryz.ntmps20
  go_upto_region 1 with fail
  clear hw1
  apply wp_region_lit
  iterate 5 (refine wpList_plain rfl fun K hK => ?_; go_simp; refine hK _ _ ?_; clear hK K)
  clear cc
  refine wpList_load_mid rfl 26 (.tmp 12) rfl z 6 rfl (rlL s.r) _ lr.out Tryz.underlying26 rfl size_rl ?_
  refine wpList_plain rfl fun K hK => ?_
  go_simp
  refine ((qp.out w1)).mono ?_
  rintro e w2 ⟨hend, hb2⟩
  have hg2 := blk_on hb2 hg1.out
  have hB2 := hb1.out.trans (hb2.mono (by omega))
  have hz2 := hb2.size
  clear hb1 hg1 lr hb2 qp
  replace hB2 := hide hB2
  rcases hend with ⟨hok, p, rfl, hP, hp⟩ | ⟨hok, rfl⟩
  case inr =>
    have hfin : MNew s w (.returned (.tuple #[.pointer none, .int .i64 1])) w2 := ⟨.inr ⟨by unfold okS; rw [hok]; rfl, rfl⟩, by rw [hz0]; exact hB2.out⟩
    clear hg2 hok
    replace hfin := hide hfin
    go_simp
    refine hK _ _ ?_
    clear hK K
    iterate 5 (refine wpList_step fun K hK => ?_; go_simp; refine hK _ _ ?_; clear hK K)
    refine wpList_nil ?_
    go_simp
    go_wp2_with fail
    go_ret2
    exact hfin.out
  go_simp
  refine hK _ _ ?_
  clear hK K
  iterate 5 (refine wpList_step fun K hK => ?_; go_simp; refine hK _ _ ?_; clear hK K)
  refine wpList_nil ?_
  go_simp
  have cc := blk_cell hg2
  have lr : w2.rangeAt z 2 (hrL s.h) := fun i v hv => by
    rw [blk_cell hg2]
    match i, hv with
    | 0, hv => exact hv
    | 1, hv => exact hv
    | 2, hv => exact hv
    | 3, hv => exact hv
  replace hg2 := hide hg2
  replace lr := hide lr
  replace hP := hide hP
  replace hok := hide hok
  go_upto_region 4 with fail
  apply wp_region_lit
  iterate 1 (refine wpList_plain rfl fun K hK => ?_; go_simp; refine hK _ _ ?_; clear hK K)
  clear cc
  refine wpList_load_mid rfl 24 (.tmp 21) rfl z 2 rfl (hrL s.h) _ lr.out Tryz.underlying24 rfl size_hr ?_
  refine wpList_plain rfl fun K hK => ?_
  go_simp
  refine ((qh.out w2)).mono ?_
  rintro e w3 ⟨hend, hb3⟩
  have hg3 := blk_on hb3 hg2.out
  have hP3 := hP.out.on hb3
  have hB3 := hB2.out.trans (hb3.mono (by omega))
  have hz3 := hb3.size
  clear hB2 hg2 lr hb3 qh hP
  have hz30 : z ≤ w3.heap.size := by have := hB3.size; omega
  replace hB3 := hide hB3
  replace hg3 := hide hg3
  replace hP3 := hide hP3
  rcases hend with ⟨hok2, b, rfl, hbo, hb⟩ | ⟨hok2, rfl⟩
  case inr =>
    have hfin : MNew s w (.returned (.tuple #[.pointer none, .int .i64 1])) w3 := ⟨.inr ⟨by unfold okS; rw [hok.out, hok2]; rfl, rfl⟩, by rw [hz0]; exact hB3.out⟩
    clear hg3 hok2
    replace hfin := hide hfin
    go_simp
    refine hK _ _ ?_
    clear hK K
    iterate 5 (refine wpList_step fun K hK => ?_; go_simp; refine hK _ _ ?_; clear hK K)
    refine wpList_nil ?_
    go_simp
    go_wp2_with fail
    go_ret2
    exact hfin.out
  have hOk : okS s = true := by unfold okS; rw [hok.out, hok2]; rfl
  clear hok hok2 hbo
  replace hOk := hide hOk
  go_simp
  refine hK _ _ ?_
  clear hK K
  iterate 5 (refine wpList_step fun K hK => ?_; go_simp; refine hK _ _ ?_; clear hK K)
  refine wpList_nil ?_
  go_simp
  go_upto_region 7 with fail
  refine wp_region_X (Below w3.heap.size) (by as_aux_lemma => kernel_rfl) ?_
  intro wc hW
  have hz := hW.size
  have hg3' := hg3.out
  have hzz : z < w3.heap.size := lt_of_blk hg3'
  have lz := fun l : RelW (Below w3.heap.size) wc => blk_cell ((l.hk.block z hzz).trans ((hW.block z hzz).trans hg3'))
  have lr : ∀ l : RelW (Below w3.heap.size) wc, l.w.rangeAt z 0 (suL s) := fun l => blk_range (cs := arrS s) ((l.hk.block z hzz).trans ((hW.block z hzz).trans hg3'))
  clear hg3 hg3'
  replace hW := hide hW
  replace lr := hide lr
  refine wpX_seg (Below w3.heap.size) 1 2 (fuel := 13) (by as_aux_lemma => kernel_rfl) (fun d _ _ _ _ h => by cases d <;> exact h) (by as_aux_lemma => kernel_rfl) (by as_aux_lemma => kernel_rfl) ?_
  simp only [List.drop_succ_cons, List.drop_zero, List.take_succ_cons, List.take_zero]
  iterate 1 (refine wpQX_step (fun K hK => ?_); go_simp; refine hK _ ?_; clear hK K)
  refine wpQX_is (.agg cbA) rfl (fun l => build_cb _ rfl l.w) ?_
  refine wpQF_nil ?_
  refine wpX_seg (Below w3.heap.size) 4 4 (fuel := 9) (by as_aux_lemma => kernel_rfl) (fun d _ _ _ _ h => by cases d <;> exact h) (by as_aux_lemma => kernel_rfl) (by as_aux_lemma => kernel_rfl) ?_
  simp only [List.drop_succ_cons, List.drop_zero, List.take_succ_cons, List.take_zero]
  iterate 3 (refine wpQX_step (fun K hK => ?_); go_simp; refine hK _ ?_; clear hK K)
  refine wpQX_is (.agg (wkA s.seed)) rfl (fun l => build_ws s.seed _ (.tmp 35) rfl rfl l.w) ?_
  refine wpQF_nil ?_
  refine wpX_seg (Below w3.heap.size) 10 1 (fuel := 8) (by as_aux_lemma => kernel_rfl) (fun d _ _ _ _ h => by cases d <;> exact h) (by as_aux_lemma => kernel_rfl) (by as_aux_lemma => kernel_rfl) ?_
  simp only [List.drop_succ_cons, List.drop_zero, List.take_succ_cons, List.take_zero]
  refine wpQX_row rfl 28 (.tmp 1) rfl z 0 rfl (suL s) _ lr.out Tryz.underlying28 rfl size_su ?_
  refine wpQF_nil ?_
  clear lz lr
  replace hW := hW.out
  (first
   | refine wpF_of [0, 3, 8, 9] (by as_aux_lemma => kernel_rfl) (by decide) ?_)
  intro i hi
  simp only [List.mem_cons, List.not_mem_nil, or_false] at hi
  rcases hi with rfl | rfl | rfl | rfl
  all_goals
    (refine wpOp_one _ rfl (fun K hK => ?_)
     go_simp
     first
     | (refine (qs.out _).mono ?_
        rintro e v ⟨⟨p0, rfl⟩, hb⟩
        replace hb := hb.mono hz
        go_simp
        refine hK _ _ hb ?_
        clear hK K
        replace hW := hW.trans hb
        replace hz := Nat.le_trans hz hb.size
        clear hb
        revert v
        intro wc hW hz)
     | (generalize wc.heap.size = p0
        generalize hv : World.alloc wc _ = v
        have hb : Below w3.heap.size wc v := by rw [← hv]; exact (Below.refl _ _).alloc hz _
        refine hK _ _ hb ?_
        clear hK K
        replace hW := hW.trans hb
        replace hz := Nat.le_trans hz hb.size
        clear hb hv
        revert v
        intro wc hW hz))
    (first
     | refine wpF_of [3, 8, 9] (by as_aux_lemma => kernel_rfl) (by decide) ?_
     | refine wpF_of [0, 8, 9] (by as_aux_lemma => kernel_rfl) (by decide) ?_
     | refine wpF_of [0, 3, 9] (by as_aux_lemma => kernel_rfl) (by decide) ?_
     | refine wpF_of [0, 3, 8] (by as_aux_lemma => kernel_rfl) (by decide) ?_)
    intro i hi
    simp only [List.mem_cons, List.not_mem_nil, or_false] at hi
    rcases hi with rfl | rfl | rfl
    all_goals
      (refine wpOp_one _ rfl (fun K hK => ?_)
       go_simp
       first
       | (refine (qs.out _).mono ?_
          rintro e v ⟨⟨p0, rfl⟩, hb⟩
          replace hb := hb.mono hz
          go_simp
          refine hK _ _ hb ?_
          clear hK K
          replace hW := hW.trans hb
          replace hz := Nat.le_trans hz hb.size
          clear hb
          revert v
          intro wc hW hz)
       | (generalize wc.heap.size = p0
          generalize hv : World.alloc wc _ = v
          have hb : Below w3.heap.size wc v := by rw [← hv]; exact (Below.refl _ _).alloc hz _
          refine hK _ _ hb ?_
          clear hK K
          replace hW := hW.trans hb
          replace hz := Nat.le_trans hz hb.size
          clear hb hv
          revert v
          intro wc hW hz))
      (first
       | refine wpF_of [0, 3] (by as_aux_lemma => kernel_rfl) (by decide) ?_
       | refine wpF_of [0, 8] (by as_aux_lemma => kernel_rfl) (by decide) ?_
       | refine wpF_of [0, 9] (by as_aux_lemma => kernel_rfl) (by decide) ?_
       | refine wpF_of [3, 8] (by as_aux_lemma => kernel_rfl) (by decide) ?_
       | refine wpF_of [3, 9] (by as_aux_lemma => kernel_rfl) (by decide) ?_
       | refine wpF_of [8, 9] (by as_aux_lemma => kernel_rfl) (by decide) ?_)
      intro i hi
      simp only [List.mem_cons, List.not_mem_nil, or_false] at hi
      rcases hi with rfl | rfl
      all_goals
        (refine wpOp_one _ rfl (fun K hK => ?_)
         go_simp
         first
         | (refine (qs.out _).mono ?_
            rintro e v ⟨⟨p0, rfl⟩, hb⟩
            replace hb := hb.mono hz
            go_simp
            refine hK _ _ hb ?_
            clear hK K
            replace hW := hW.trans hb
            replace hz := Nat.le_trans hz hb.size
            clear hb
            revert v
            intro wc hW hz)
         | (generalize wc.heap.size = p0
            generalize hv : World.alloc wc _ = v
            have hb : Below w3.heap.size wc v := by rw [← hv]; exact (Below.refl _ _).alloc hz _
            refine hK _ _ hb ?_
            clear hK K
            replace hW := hW.trans hb
            replace hz := Nat.le_trans hz hb.size
            clear hb hv
            revert v
            intro wc hW hz))
        (first
         | refine wpF_of [0] (by as_aux_lemma => kernel_rfl) (by decide) ?_
         | refine wpF_of [3] (by as_aux_lemma => kernel_rfl) (by decide) ?_
         | refine wpF_of [8] (by as_aux_lemma => kernel_rfl) (by decide) ?_
         | refine wpF_of [9] (by as_aux_lemma => kernel_rfl) (by decide) ?_)
        intro i hi
        simp only [List.mem_cons, List.not_mem_nil, or_false] at hi
        subst hi
        (refine wpOp_one _ rfl (fun K hK => ?_)
         go_simp
         first
         | (refine (qs.out _).mono ?_
            rintro e v ⟨⟨p0, rfl⟩, hb⟩
            replace hb := hb.mono hz
            go_simp
            refine hK _ _ hb ?_
            clear hK K
            replace hW := hW.trans hb
            replace hz := Nat.le_trans hz hb.size
            clear hb
            revert v
            intro wc hW hz)
         | (generalize wc.heap.size = p0
            generalize hv : World.alloc wc _ = v
            have hb : Below w3.heap.size wc v := by rw [← hv]; exact (Below.refl _ _).alloc hz _
            refine hK _ _ hb ?_
            clear hK K
            replace hW := hW.trans hb
            replace hz := Nat.le_trans hz hb.size
            clear hb hv
            revert v
            intro wc hW hz))
        refine wpF_step 11 rfl (by as_aux_lemma => kernel_rfl) (fun K hK => ?_)
        rw [if_pos (by rfl)]
        refine wp_is (.agg (maA _ b _ p _ _ s (.slice none 0 0))) (build_ma _ b _ p _ _ s _ (.tmp 29) (.tmp 30) (.tmp 32) (.tmp 33) (.tmp 37) (.tmp 38) (.tmp 39) rfl rfl rfl rfl rfl rfl rfl rfl wc) ?_
        refine hK _ _ (Below.refl _ _) ?_
        clear hK K
        refine wpF_step 12 rfl (by as_aux_lemma => kernel_rfl) (fun K hK => ?_)
        go_simp
        generalize hm : wc.heap.size = m
        generalize hv : World.alloc wc _ = v
        have hb : Below w3.heap.size wc v := by rw [← hv]; exact (Below.refl _ _).alloc hz _
        have hfin : MNew s w (.returned (.tuple #[.pointer (some ⟨m, 0, none⟩), .int .i64 0])) v := ⟨.inl ⟨hOk.out, m, rfl, ⟨_, _, _, _, _, _, s, by rw [← hv, ← hm]; exact blk_new _ _ _, hP3.out.on (hW.trans hb)⟩, by rw [hz0]; omega⟩, by rw [hz0]; exact hB3.out.trans ((hW.trans hb).mono hz30)⟩
        refine hK _ _ hb ?_
        clear hK K hb hv
        replace hfin := hide hfin
        refine wpF_step 13 rfl (by as_aux_lemma => kernel_rfl) (fun K hK => ?_)
        go_simp
        refine hK _ _ (IsRel.refl _) ?_
        clear hK K
        refine wpF_step 14 rfl (by as_aux_lemma => kernel_rfl) (fun K hK => ?_)
        go_simp
        refine hK _ _ (IsRel.refl _) ?_
        clear hK K
        refine wpF_done (by as_aux_lemma => kernel_rfl) ?_ 0
        go_wp2_with fail
        go_ret2
        exact hfin.out
end Mach33
end Go.Proofs.YtdneeablghlemaaGreatDoor
/- flow, pin, step: a balancer without flows that is started again: nothing is lost. Condition: such a balancer in memory. -/
namespace Go.Proofs.YtdneeablghlemaaGreatDoor
open Go.RowKit Go.ChangeShapes Go.WideShapes Go.ChangeAt Go.Deep
namespace Mach33
theorem set_same {w : World} {g i : Nat} {cs : Array Value} {T : TypeId} {v : Value} (h : w.heap[g]? = some (.cells cs T (0, 0))) (hv : cs.setIfInBounds i v = cs) : Below w.heap.size w (w.setCell ⟨g, i, none⟩ v) := by
  obtain ⟨w2, e, h1, h2⟩ := store_cell h i v
  rw [e]
  refine ⟨h2.os, h2.tape, h2.output, h2.size, fun k hk => ?_⟩
  by_cases hkg : k = g
  · subst hkg
    rw [h1, h, hv]
  · exact h2.block k hk (fun e => hkg (Option.some.inj e))
theorem app_gone (ty : TypeId) (w : World) : (Builtin.append_ #[93, 93] ty #[.slice none 0 0, .slice none 0 0]).run Tryz.prog w = .ok (.slice none 0 0) w := by kernel_rfl
theorem tnone_e {w : World} {f : Nat} (h : TabE w f) : Calls Tryz.prog 49 #[.pointer (some ⟨f, 0, none⟩)] w fun e w' => e = .returned (.bool false) ∧ w' = w := by
  obtain ⟨s, m, l, hm, hb⟩ := h
  have cc := blk_cell hb 1
  have t1 : (m == 0) = false := by rw [beq_eq_false_iff_ne]; omega
  clear hb hm
  go_enter Tryz.func49, Tryz.ntmps49
  go_wp2_with fail
  go_ret
  exact ⟨rfl, rfl⟩
theorem all_e {w : World} {f : Nat} (h : TabE w f) : Calls Tryz.prog 50 #[.pointer (some ⟨f, 0, none⟩)] w fun e w' => e = .returned (.slice none 0 0) ∧ w' = w := by
  have q := tnone_e h
  obtain ⟨s, m, l, hm, hb⟩ := h
  have cc := blk_cell hb 4
  clear hb hm
  replace q := hide q
  go_enter Tryz.func50, Tryz.ntmps50
  go_wp2_with fail
  refine (q.out).mono ?_
  rintro e w1 ⟨rfl, rfl⟩
  clear q
  go_wp2_with fail
  go_loopw [3, 4] (fun u iv wr => u = .slice none 0 0 ∧ iv = .int .i64 (-1) ∧ w1 = wr) (fun _ _ _ => 0)
  case atStart => exact ⟨rfl, rfl, rfl⟩
  case round =>
    obtain ⟨rfl, rfl, rfl⟩ := hrel
    go_wp2_with fail
    go_ret
    exact ⟨rfl, rfl⟩
theorem purge_e {w : World} {f : Nat} (h : TabE w f) (F : Value) : Calls Tryz.prog 161 #[.pointer (some ⟨f, 0, none⟩), F] w fun e w' => e = .returned (.slice none 0 0) ∧ w' = w := by
  have q := all_e h
  clear h
  replace q := hide q
  go_enter Tryz.func161, Tryz.ntmps161
  go_wp2_with fail
  refine (q.out).mono ?_
  rintro e w1 ⟨rfl, rfl⟩
  clear q
  go_wp2_with fail
  go_loopw [5, 11] (fun u iv wr => u = .slice none 0 0 ∧ iv = .int .i64 0 ∧ w1 = wr) (fun _ _ _ => 0)
  case atStart => exact ⟨rfl, rfl, rfl⟩
  case round =>
    obtain ⟨rfl, rfl, rfl⟩ := hrel
    go_wp2_with fail
    go_ret
    exact ⟨rfl, rfl⟩
theorem clear_e {w : World} {f : Nat} (h : TabE w f) : Calls Tryz.prog 119 #[.pointer (some ⟨f, 0, none⟩)] w fun e w' => e = .returned (.slice none 0 0) ∧ w' = w := by
  have q := fun F => purge_e h F
  clear h
  replace q := hide q
  go_enter Tryz.func119, Tryz.ntmps119
  go_wp2_with fail
  refine ((q.out _)).mono ?_
  rintro e w1 ⟨rfl, rfl⟩
  clear q
  go_wp2_with fail
  go_ret
  exact ⟨rfl, rfl⟩
theorem gone_e (y : Int) (w : World) : Calls Tryz.prog 110 #[.int .i64 y, .slice none 0 0] w fun e w' => e = .returned (.slice none 0 0) ∧ w' = w := by
  go_enter Tryz.func110, Tryz.ntmps110
  go_wp2_with fail
  go_loopw [5, 10] (fun u iv wr => u = .slice none 0 0 ∧ iv = .int .i64 0 ∧ w = wr) (fun _ _ _ => 0)
  case atStart => exact ⟨rfl, rfl, rfl⟩
  case round =>
    obtain ⟨rfl, rfl, rfl⟩ := hrel
    go_wp2_with fail
    go_ret
    exact ⟨rfl, rfl⟩
theorem forget_e {w : World} {p : Nat} (h : PinE w p) : Calls Tryz.prog 80 #[.pointer (some ⟨p, 0, none⟩)] w fun e w' => e = .returned (.slice none 0 0) ∧ w' = w := by
  obtain ⟨f, r, hb, ht⟩ := h
  have cc := blk_cell hb 0
  have qn : Calls Tryz.prog 61 #[.pointer (some ⟨p, 0, none⟩)] w fun e w' => e = .returned (.bool false) ∧ w' = w := by
    clear ht hb
    go_enter Tryz.func61, Tryz.ntmps61
    go_wp2_with fail
    go_ret
    exact ⟨rfl, rfl⟩
  have qc := clear_e ht
  have qg := gone_e 5 w
  clear hb ht
  replace qn := hide qn
  replace qc := hide qc
  replace qg := hide qg
  go_enter Tryz.func80, Tryz.ntmps80
  go_wp2_with fail
  refine (qn.out).mono ?_
  rintro e w1 ⟨rfl, rfl⟩
  clear qn
  go_wp2_with fail
  refine (qc.out).mono ?_
  rintro e w1 ⟨rfl, rfl⟩
  clear qc
  go_wp2_with fail
  refine (qg.out).mono ?_
  rintro e w1 ⟨rfl, rfl⟩
  clear qg
  go_wp2_with fail
  go_ret
  exact ⟨rfl, rfl⟩
/-- What is told where nothing is. -/
abbrev tdA : Array Value := #[.int .i64 0, .slice none 0 0, .int .i64 0]
theorem td_one : tdA.all (·.oneCell') = true := by kernel_rfl
set_option maxRecDepth 20000 in
set_option maxHeartbeats 4000000 in
theorem restart_e {w : World} {m : Nat} (h : MaE w m) : Calls Tryz.prog 43 #[.pointer (some ⟨m, 0, none⟩)] w fun e w' => e = .returned (.agg tdA) ∧ Below w.heap.size w w' := by
  have hap := app_gone
  obtain ⟨a, b, c, p, d, e, s, hb, hP⟩ := h
  obtain ⟨w1, hw1⟩ : ∃ w1, w.alloc (.cells tdA 37) = w1 := ⟨_, rfl⟩
  have hb1 : Below w.heap.size w w1 := hw1 ▸ (Below.refl _ _).alloc (Nat.le_refl _) _
  have hg1 : w1.heap[w.heap.size]? = some (.cells tdA 37 (0, 0)) := hw1 ▸ blk_new _ _ _
  have hm1 := blk_on hb1 hb
  have c3 := blk_cell hm1 3
  have c17 := blk_cell hm1 17
  have f17 := blk_free hm1 17
  have qf := forget_e (hP.on hb1)
  have hb2 := set_same (i := 17) (v := .slice none 0 0) hm1 rfl
  obtain ⟨w2, hw2⟩ : ∃ w2, w1.setCell ⟨m, 17, none⟩ (.slice none 0 0) = w2 := ⟨_, rfl⟩
  rw [hw2] at hb2
  have hg2 := blk_on hb2 hg1
  have hB2 := hb1.trans (hb2.mono hb1.size)
  obtain ⟨z, hz⟩ : ∃ z, w.heap.size = z := ⟨_, rfl⟩
  rw [hz] at hg2 hB2
  rw [hz]
  clear hP hb hb1 hg1 hm1 hb2
  replace qf := hide qf
  replace hg2 := hide hg2
  replace hB2 := hide hB2
  go_enter Tryz.func43, Tryz.ntmps43
  go_wp2_with fail
  refine (qf.out).mono ?_
  rintro e w3 ⟨rfl, rfl⟩
  clear qf hw1
  go_upto_region 3 with fail
  clear hw2
  apply wp_region_lit
  iterate 3 (refine wpList_plain rfl fun K hK => ?_; go_simp; refine hK _ _ ?_; clear hK K)
  refine wpl_st rfl 37 (.tmp 2) (.tmp 20) rfl (z) 0 rfl (tdA) rfl hg2.out (by simp) (by kernel_rfl) (td_one) fun w9 hg9 g9 => ?_
  rw [putA_whole _ _ (by rfl)] at hg9
  have hb9 : Below (z) w w9 := (hB2.out).trans (below_grown g9 (by have := (hB2.out).size; omega) (Nat.le_refl _))
  have hld : (loadVar 37 ⟨z, 0, none⟩).run Tryz.prog w9 = .ok (.agg (tdA)) w9 := by
    simpa using run_loadVar_mid w9 (z) 0 37 (tdA).toList _ (blk_range hg9) Tryz.underlying37 rfl (by kernel_rfl)
  clear hg9 g9
  replace hld := hide hld
  replace hb9 := hide hb9
  refine wpList_nil ?_
  go_simp
  go_wp2_with fail
  exact bodyPost_ret (v := .agg tdA) (by simp [results, Tryz.results43, asAddr, hld.out]) rfl ⟨rfl, hb9.out⟩
theorem mnone_e {w : World} {m : Nat} (h : MaE w m) : Calls Tryz.prog 36 #[.pointer (some ⟨m, 0, none⟩)] w fun e w' => e = .returned (.bool false) ∧ w' = w := by
  obtain ⟨a, b, c, p, d, e, s, hb, hP⟩ := h
  have cc := blk_cell hb 3
  clear hb hP
  go_enter Tryz.func36, Tryz.ntmps36
  go_wp2_with fail
  go_ret
  exact ⟨rfl, rfl⟩
/-- An op that starts a balancer again. -/
abbrev opA : Array Value := #[.int .i64 7, .slice none 0 0, .string ⟨#[]⟩, .int .i64 0, .int .i64 0, .bool false]
theorem op_one : opA.all (·.oneCell') = true := by kernel_rfl
set_option maxRecDepth 20000 in
set_option maxHeartbeats 4000000 in
theorem do_e {w : World} {m : Nat} (h : MaE w m) : Calls Tryz.prog 19 #[.pointer (some ⟨m, 0, none⟩), .agg opA] w fun e w' => e = .returned (.agg tdA) ∧ Below w.heap.size w w' := by
  obtain ⟨w1, hw1⟩ : ∃ w1, w.alloc (.cells opA 42) = w1 := ⟨_, rfl⟩
  have hb1 : Below w.heap.size w w1 := hw1 ▸ (Below.refl _ _).alloc (Nat.le_refl _) _
  have hg1 : w1.heap[w.heap.size]? = some (.cells opA 42 (0, 0)) := hw1 ▸ blk_new _ _ _
  obtain ⟨w2, hw2⟩ : ∃ w2, w1.alloc (.cells tdA 37) = w2 := ⟨_, rfl⟩
  have hb2 : Below w1.heap.size w1 w2 := hw2 ▸ (Below.refl _ _).alloc (Nat.le_refl _) _
  have hg2 : w2.heap[w1.heap.size]? = some (.cells tdA 37 (0, 0)) := hw2 ▸ blk_new _ _ _
  have cc := blk_cell (blk_on hb2 hg1)
  have hz1 : w1.heap.size = w.heap.size + 1 := by rw [← hw1]; simp
  have hB2 := hb1.trans (hb2.mono hb1.size)
  have hM := h.on hB2
  have qn := mnone_e hM
  have qr := restart_e hM
  obtain ⟨z, hz⟩ : ∃ z, w.heap.size = z := ⟨_, rfl⟩
  rw [hz] at hB2 hz1 cc
  rw [hz1] at hg2
  rw [hz]
  clear h hM hb1 hg1 hb2
  replace qn := hide qn
  replace qr := hide qr
  replace hg2 := hide hg2
  replace hB2 := hide hB2
  go_enter Tryz.func19, Tryz.ntmps19
  go_wp2_with fail
  refine (qn.out).mono ?_
  rintro e w3 ⟨rfl, rfl⟩
  clear qn hw1 hw2
  go_upto_region 17 with fail
  apply wp_region_lit
  iterate 1 (refine wpList_plain rfl fun K hK => ?_; go_simp; refine hK _ _ ?_; clear hK K)
  refine wpList_plain rfl fun K hK => ?_
  go_simp
  refine ((qr.out)).mono ?_
  rintro e w4 ⟨rfl, hb4⟩
  have hg4 := blk_on hb4 hg2.out
  have hB4 := hB2.out.trans (hb4.mono (by have := hB2.out.size; omega))
  clear hb4 hg2 hB2 qr
  replace hg4 := hide hg4
  replace hB4 := hide hB4
  go_simp
  refine hK _ _ ?_
  clear hK K
  refine wpl_st rfl 37 (.tmp 4) (.tmp 56) rfl (z + 1) 0 rfl (tdA) rfl hg4.out (by simp) (by kernel_rfl) (td_one) fun w9 hg9 g9 => ?_
  rw [putA_whole _ _ (by rfl)] at hg9
  have hb9 : Below (z) w w9 := (hB4.out).trans (below_grown g9 (by have := (hB4.out).size; omega) (by omega))
  have hld : (loadVar 37 ⟨z + 1, 0, none⟩).run Tryz.prog w9 = .ok (.agg (tdA)) w9 := by
    simpa using run_loadVar_mid w9 (z + 1) 0 37 (tdA).toList _ (blk_range hg9) Tryz.underlying37 rfl (by kernel_rfl)
  clear hg9 g9
  replace hld := hide hld
  replace hb9 := hide hb9
  refine wpList_nil ?_
  go_simp
  go_wp2_with fail
  exact bodyPost_ret (v := .agg tdA) (by simp [results, Tryz.results19, asAddr, hld.out]) rfl ⟨rfl, hb9.out⟩
end Mach33
end Go.Proofs.YtdneeablghlemaaGreatDoor
/- append of bytes, and of a string's bytes, onto a row of the call's own: as an operation, in a walk and in a drawn region. Conditions: sizes below 2^40. -/
namespace Go.Proofs.YtdneeablghlemaaGreatDoor
open Go.RowKit Go.ChangeShapes Go.WideShapes Go.ChangeAt Go.Deep
theorem strCells_str (s : List UInt8) : Lib.strCells (str s) = s.map u8v := by
  unfold Lib.strCells str u8v
  rfl
section
variable {w : World} {ops : Array Oper} {rest : List Oper} {o : Oper} {a : Act} {Q : Exit → Act → World → Prop} {K : Act → World → Prop} {md : Region.Mode}
theorem wp_app_b (s x : Operand)
    (ho : o.op = .call { callee := .builtin .append, args := #[s, x], argTypes := #[40, 40] })
    (base : Nat) (v : Value) (xs ys : List UInt8) (A : Option Addr) (m c B : Nat) (hs : a.eval s = v) (hx : a.eval x = .slice A m c) (hown : OwnB w base v xs) (hr : IsB w B A m ys) (hbase : base ≤ w.heap.size) (hb : xs.length + m ≤ 1099511627776)
    (h : ∀ v' w', OwnB w' base v' (xs ++ ys) → Grew w v w' v' → K (a.put o.dst v') w') : o.wp Tryz.prog a w K Q := by
  obtain ⟨i, hi, hz, hsz, hby⟩ := info_parts info_u8
  have hm : ys.length = m := hr.1
  refine wp_append_isv w s x 40 ho base 5 i _ 1 1 Tryz.underlying40 hi hz hsz hby rfl (by omega) v xs.length (xs.map u8v) hs hown B A m c (ys.map u8v) hx hr.vals (u8v_one ys) (by unfold maxLen; omega) (by omega) hbase fun v' w' h1 h2 h3 => h v' w' ?_ ⟨h2, moved_mk' h3⟩
  unfold OwnB
  rw [List.map_append, List.length_append, hm]
  exact h1
theorem wp_app_s (s x : Operand)
    (ho : o.op = .call { callee := .builtin .append, args := #[s, x], argTypes := #[40, 9] })
    (base : Nat) (v : Value) (xs ys : List UInt8) (hs : a.eval s = v) (hx : a.eval x = .string (str ys)) (hown : OwnB w base v xs) (hbase : base ≤ w.heap.size) (hb : xs.length + ys.length ≤ 1099511627776)
    (h : ∀ v' w', OwnB w' base v' (xs ++ ys) → w.grownBy w' v.ownBlock → K (a.put o.dst v') w') : o.wp Tryz.prog a w K Q := by
  obtain ⟨i, hi, hz, hsz, hby⟩ := info_parts info_u8
  have hyl : (str ys).size = ys.length := List.size_toArray
  obtain ⟨v', w', hr, h2, h3, _⟩ := Lib.run_append_own_string (P := Tryz.prog) (w := w) base 40 9 o.type 5 i Tryz.underlying40 Tryz.underlying9 hi hz hsz hby v xs.length (xs.map u8v) hown (str ys) (by rw [hyl]; unfold maxLen; omega) (by rw [hyl]; omega) hbase
  unfold Oper.wp execOp
  simp only [ho, resolve, invoke, builtin, Sem.run_bind, Sem.run_pure, Result.andThen_ok, List.map_toArray, List.map_cons, List.map_nil, hs, hx, hr]
  refine h v' w' ?_ h3
  unfold OwnB
  rw [List.map_append, List.length_append, ← hyl, ← strCells_str]
  exact h2
theorem wpl_app_s (hgd : o.guard = none) (s x : Operand)
    (ho : o.op = .call { callee := .builtin .append, args := #[s, x], argTypes := #[40, 9] })
    (base : Nat) (v : Value) (xs ys : List UInt8) (hs : a.eval s = v) (hx : a.eval x = .string (str ys)) (hown : OwnB w base v xs) (hbase : base ≤ w.heap.size) (hb : xs.length + ys.length ≤ 1099511627776)
    (h : ∀ v' w', OwnB w' base v' (xs ++ ys) → w.grownBy w' v.ownBlock → wpList Tryz.prog ops Q rest (a.put o.dst v') w') : wpList Tryz.prog ops Q (o :: rest) a w :=
  wpList_plain hgd fun _ hK => wp_app_s s x ho base v xs ys hs hx hown hbase hb fun v' w' h1 h2 => hK _ _ (h v' w' h1 h2)
theorem wpT_app_b (i : Nat) {L : List Oper} {fuel : Nat} {listed : Array Bool} (hd : L.drop i = o :: rest) (hrd : Region.ready md L.toArray listed = [i]) (hgd : o.guard = none) (s x : Operand)
    (ho : o.op = .call { callee := .builtin .append, args := #[s, x], argTypes := #[40, 40] })
    (base : Nat) (v : Value) (xs ys : List UInt8) (A : Option Addr) (m c B : Nat) (hs : a.eval s = v) (hx : a.eval x = .slice A m c) (hown : OwnB w base v xs) (hr : IsB w B A m ys) (hbase : base ≤ w.heap.size) (hb : xs.length + m ≤ 1099511627776)
    (h : ∀ v' w', OwnB w' base v' (xs ++ ys) → Grew w v w' v' → wpAny Tryz.prog md L.toArray Q fuel (listed.setIfInBounds i true) (a.put o.dst v') w') : wpAny Tryz.prog md L.toArray Q (fuel + 1) listed a w := by
  refine wpT_step i hd hrd fun K hK => ?_
  rw [if_pos (by unfold Region.wanted; rw [hgd])]
  exact wp_app_b s x ho base v xs ys A m c B hs hx hown hr hbase hb fun v' w' h1 h2 => hK _ _ (h v' w' h1 h2)
theorem wpT_app_s (i : Nat) {L : List Oper} {fuel : Nat} {listed : Array Bool} (hd : L.drop i = o :: rest) (hrd : Region.ready md L.toArray listed = [i]) (hgd : o.guard = none) (s x : Operand)
    (ho : o.op = .call { callee := .builtin .append, args := #[s, x], argTypes := #[40, 9] })
    (base : Nat) (v : Value) (xs ys : List UInt8) (hs : a.eval s = v) (hx : a.eval x = .string (str ys)) (hown : OwnB w base v xs) (hbase : base ≤ w.heap.size) (hb : xs.length + ys.length ≤ 1099511627776)
    (h : ∀ v' w', OwnB w' base v' (xs ++ ys) → w.grownBy w' v.ownBlock → wpAny Tryz.prog md L.toArray Q fuel (listed.setIfInBounds i true) (a.put o.dst v') w') : wpAny Tryz.prog md L.toArray Q (fuel + 1) listed a w := by
  refine wpT_step i hd hrd fun K hK => ?_
  rw [if_pos (by unfold Region.wanted; rw [hgd])]
  exact wp_app_s s x ho base v xs ys hs hx hown hbase hb fun v' w' h1 h2 => hK _ _ (h v' w' h1 h2)
end
/-- .. onto a slice that is full: what comes lies in a new block. -/
theorem IsB.cells {w : World} {B n : Nat} {ad : Addr} {xs : List UInt8} (h : IsB w B (some ad) n xs) (j : Nat) (u : Value) (hu : (xs.map u8v)[j]? = some u) : w.cell? (ad.add j) = some u := by
  obtain ⟨hj, rfl⟩ := List.getElem?_eq_some_iff.1 hu
  rw [List.length_map] at hj
  obtain ⟨b, off, e, _, hc⟩ := h.2 (by have := h.1; omega)
  cases e
  rw [show (Addr.add ⟨b, off, none⟩ j : Addr) = ⟨b, off + j, none⟩ by unfold Addr.add; split <;> simp_all, hc j hj, List.getElem_map]
theorem wpl_full_b {w : World} {ops : Array Oper} {rest : List Oper} {o : Oper} {a : Act} {Q : Exit → Act → World → Prop} (hgd : o.guard = none) (s x : Operand)
    (ho : o.op = .call { callee := .builtin .append, args := #[s, x], argTypes := #[40, 40] })
    (ad : Addr) (n : Nat) (xs ys : List UInt8) (A : Option Addr) (m c B B0 : Nat) (hs : a.eval s = .slice (some ad) n n) (hx : a.eval x = .slice A m c) (hf : IsB w B0 (some ad) n xs) (hr : IsB w B A m ys) (hm : 0 < m) (hb : n + m ≤ 1099511627776)
    (h : ∀ v' w', OwnB w' w.heap.size v' (xs ++ ys) → Below w.heap.size w w' → wpList Tryz.prog ops Q rest (a.put o.dst v') w') : wpList Tryz.prog ops Q (o :: rest) a w := by
  obtain ⟨i, hi, hz, hsz, hby⟩ := info_parts info_u8
  obtain ⟨b, off, rfl, _, _⟩ := hr.2 hm
  have hyl := hr.1
  have hxl := hf.1
  obtain ⟨v', w', hrun, h2, h3⟩ := run_append_arg_grows (P := Tryz.prog) w 40 o.type 5 i _ 1 1 Tryz.underlying40 hi hz hsz hby rfl (by omega) ad n n (xs.map u8v) (by rw [List.length_map]; omega) hf.cells ⟨b, off, none⟩ m c (ys.map u8v) (by rw [List.length_map]; omega) hr.cells (by omega) (by unfold maxLen; omega) (by omega)
  refine wpList_plain hgd fun K hK => ?_
  unfold Oper.wp execOp
  simp only [ho, resolve, invoke, builtin, Sem.run_bind, Sem.run_pure, Result.andThen_ok, List.map_toArray, List.map_cons, List.map_nil, hs, hx, hrun]
  refine hK _ _ (h v' w' ?_ ⟨h3.os, h3.tape, h3.output, h3.size, fun k hk => h3.block k hk (by simp)⟩)
  unfold OwnB
  rw [List.map_append, List.length_append, hxl, hyl]
  exact h2
theorem wpl_full_lit {w : World} {t : TypeId} {vals : List Value} {ops : Array Oper} {rest : List Oper} {o : Oper} {a : Act} {Q : Exit → Act → World → Prop} (hgd : o.guard = none) (s x : Operand)
    (ho : o.op = .call { callee := .builtin .append, args := #[s, x], argTypes := #[40, 40] })
    (ad : Addr) (n : Nat) (xs ys : List UInt8) (m c B0 : Nat) (hs : a.eval s = .slice (some ad) n n) (hx : a.eval x = .slice (some ⟨w.heap.size, 0, none⟩) m c) (hv : vals = ys.map u8v) (hym : ys.length = m) (hf : IsB w B0 (some ad) n xs) (hB0 : B0 ≤ w.heap.size) (hm : 0 < m) (hb : n + m ≤ 1099511627776)
    (h : ∀ v' w', OwnB w' w.heap.size v' (xs ++ ys) → Below w.heap.size w w' → wpList Tryz.prog ops Q rest (a.put o.dst v') w') : wpList Tryz.prog ops Q (o :: rest) a (w.alloc (.cells vals.toArray t)) := by
  subst hv hym
  have hbl : Below w.heap.size w (w.alloc (.cells (ys.map u8v).toArray t)) := (Below.refl _ _).alloc (Nat.le_refl _) _
  refine wpl_full_b hgd s x ho ad n xs ys _ _ c (w.heap.size + 1) B0 hs hx (hf.below (hbl.mono hB0)) ⟨rfl, fun hn => ⟨_, 0, rfl, by omega, fun i hi => ?_⟩⟩ hm hb fun v' w' h1 h2 => h v' w' (h1.weaken (by simp)) (hbl.trans (h2.mono (by simp)))
  rw [blk_cell (blk_new w t (ys.map u8v).toArray) (0 + i)]
  simp [hi]
/-- A constant's bytes. -/
theorem bytes_const (w : World) (xs : List UInt8) (cs : Array Value) (hcs : cs = (xs.map u8v).toArray) (n : Nat) (hn : xs.length = n) :
    ∃ w', (∀ l : World, l = w.alloc (.cells cs 5) → (convert 40 40 (.slice (some ⟨w.heap.size, 0, none⟩) n n)).run Tryz.prog l = .ok (.slice (some ⟨w.heap.size, 0, none⟩) n n) w') ∧ IsB w' (w.heap.size + 1) (some ⟨w.heap.size, 0, none⟩) n xs ∧ Below w.heap.size w w' ∧ w'.heap.size = w.heap.size + 1 := by
  subst hcs hn
  refine ⟨_, fun l hl => by rw [hl]; exact Lib.run_convert_bytes_const (P := Tryz.prog) w 40 5 _ xs.length xs.length Tryz.underlying40 Tryz.underlying5, ⟨rfl, fun hn => ⟨_, 0, rfl, by omega, fun i hi => ?_⟩⟩, (Below.refl _ _).alloc (Nat.le_refl _) _, by simp⟩
  rw [cell_of_row _ w.heap.size (0 + i) (xs.map u8v).toArray 5 _ (heap_alloc_new w _)]
  simp [hi]
theorem OwnB.belowRow {w w' : World} {base : Nat} {v : Value} {xs : List UInt8} (h : OwnB w base v xs) (hg : w.grownBy w' v.ownBlock) (hb : base ≤ w.heap.size) : Below base w w' := below_of_grown hg hb fun k hk => (h.lt k hk).1
/-- What lies below block number S stays, but for the row's block. -/
theorem keptS_row {S : Nat} {w w' : World} {v v0 : Value} (hg : w.grownBy w' v.ownBlock) (hS : S ≤ w.heap.size) (hm : v.ownBlock = v0.ownBlock ∨ ∃ k, v.ownBlock = some k ∧ S ≤ k) : KeptS S (fun k => v0.ownBlock = some k) w w' :=
  ⟨hg.os, hg.tape, hg.output, hg.size, fun k hk hne => hg.block k (by omega) (fun e => by
    have e' : v.ownBlock = some k := by first | exact e | exact e.symm
    rcases hm with h | ⟨j, h, hj⟩
    · exact hne (h ▸ e')
    · rw [h] at e'; cases e'; omega)⟩
theorem Moved.from {w : World} {S : Nat} {v v' : Value} (h : Moved w v v') (hS : S ≤ w.heap.size) : v'.ownBlock = v.ownBlock ∨ ∃ k, v'.ownBlock = some k ∧ S ≤ k := h.imp id fun ⟨k, e, hk⟩ => ⟨k, e, by omega⟩
end Go.Proofs.YtdneeablghlemaaGreatDoor
/- octet.Put behind a slice that is full (a constant's bytes), by contract. Conditions: 1 to 8 bytes, sizes below 2^38. -/
namespace Go.Proofs.YtdneeablghlemaaGreatDoor
open Go.RowKit Go.ChangeShapes Go.WideShapes Go.ChangeAt Go.Deep
set_option maxHeartbeats 2000000 in
theorem put_full (ad : Addr) (n B0 : Nat) (xs : List UInt8) (Ni ki : Int) (N k : Nat) (hNi : Ni = (N : Int)) (hki : ki = (k : Int)) (w : World) (hf : IsB w B0 (some ad) n xs) (hB0 : B0 ≤ w.heap.size) (_hN : N < 18446744073709551616) (hk : k ≤ 8) (hk0 : 0 < k) (hl : n ≤ 549755813888) :
    Calls Tryz.prog 21 #[.slice (some ad) n n, .int .u64 Ni, .int .i64 ki] w fun e w' => ∃ v', e = .returned v' ∧ OwnB w' w.heap.size v' (xs ++ beB N k) ∧ Below w.heap.size w w' := by
  subst hNi hki
  have hxn := hf.1
  go_enter Tryz.func21, Tryz.ntmps21
  go_wp2_with fail
  go_loopw [0, 7] (fun u i wr => ∃ (j : Nat) (pre : List UInt8), j ≤ k ∧ i = .int .i64 ((j : Int) - 1) ∧ pre ++ beB N j = beB N k ∧ ((u = .slice (some ad) n n ∧ pre = [] ∧ j = k ∧ w = wr) ∨ OwnB wr w.heap.size u (xs ++ pre)) ∧ Below w.heap.size w wr) (fun _ i _ => (intOf i + 1).toNat)
  case atStart => exact ⟨k, [], Nat.le_refl _, rfl, rfl, .inl ⟨rfl, rfl, rfl, rfl⟩, Below.refl _ _⟩
  case round =>
    obtain ⟨j, pre, hj, rfl, hpre, hu, hb⟩ := hrel
    have hz := hb.size
    have hpl : pre.length ≤ 8 := by
      have := congrArg List.length hpre
      rw [List.length_append, beB_length, beB_length] at this
      omega
    rcases j with _ | i
    · rcases hu with ⟨_, _, h0, _⟩ | hu'
      · omega
      replace hpre := hide hpre
      replace hu' := hide hu'
      replace hb := hide hb
      go_wp2_with fail
      go_ret
      have h1 := hpre.out
      simp only [beB, List.append_nil] at h1
      exact ⟨_, rfl, h1 ▸ hu'.out, hb.out⟩
    · have e1 : (((i + 1 : Nat) : Int) - 1) = (i : Int) := by omega
      rw [e1]
      have hps := pow_shift i (by omega)
      have hnext : (pre ++ [UInt8.ofNat (N / 256 ^ i)]) ++ beB N i = beB N k := by rw [← hpre, beB]; simp
      rcases hu with ⟨rfl, rfl, _, rfl⟩ | hu
      · clear hpre hb
        replace hnext := hide hnext
        replace hf := hide hf
        go_wp2_with (at_builtin; refine wpl_full_lit rfl (.tmp 16) (.tmp 22) rfl ad n xs [UInt8.ofNat (N / 256 ^ i)] 1 1 B0 rfl rfl ?_ rfl hf.out hB0 (by omega) (by omega) ?_)
        · rw [List.map_cons, List.map_nil, ← u8v_mod]
          congr 3
          rw [Int.pow_mul]
          simp
        intro v' w' h1 h2
        have hB := h2
        have hown : OwnB w' w.heap.size v' (xs ++ ([] ++ [UInt8.ofNat (N / 256 ^ i)])) := by simpa using h1
        clear h1 h2
        replace hB := hide hB
        replace hown := hide hown
        go_wp2_with fail
        exact ⟨⟨i, _, by omega, by go_num, hnext.out, .inr hown.out, hB.out⟩, by simp [intOf] <;> omega⟩
      · have hlt := fun k hk => (hu.lt k hk).1
        clear hpre
        replace hu := hide hu
        replace hb := hide hb
        replace hnext := hide hnext
        replace hlt := hide hlt
        go_wp2_with (at_builtin; refine wpl_lit_bv rfl (.tmp 16) (.tmp 22) rfl w.heap.size _ (xs ++ pre) [UInt8.ofNat (N / 256 ^ i)] 1 1 rfl rfl ?_ rfl hu.out hz (by rw [List.length_append]; omega) ?_)
        · rw [List.map_cons, List.map_nil, ← u8v_mod]
          congr 3
          rw [Int.pow_mul]
          simp
        intro v' w' h1 h2
        have hB := hb.out.trans (h2.below hu.out hz)
        have hown : OwnB w' w.heap.size v' (xs ++ (pre ++ [UInt8.ofNat (N / 256 ^ i)])) := by simpa using h1
        clear h1 h2
        replace hB := hide hB
        replace hown := hide hown
        go_wp2_with fail
        exact ⟨⟨i, _, by omega, by go_num, hnext.out, .inr hown.out, hB.out⟩, by simp [intOf] <;> omega⟩
end Go.Proofs.YtdneeablghlemaaGreatDoor
