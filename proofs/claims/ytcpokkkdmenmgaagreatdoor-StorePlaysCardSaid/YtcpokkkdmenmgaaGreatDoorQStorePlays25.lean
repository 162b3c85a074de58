/- The walk of StorePlays. No condition. -/
import Derived.Test.YtcpokkkdmenmgaaGreatDoorQStorePlays24
import Derived.Test.YtcpokkkdmenmgaaGreatDoorQStorePlays8
import Derived.Test.YtcpokkkdmenmgaaGreatDoorQStorePlays2
namespace Go.Proofs.YtcpokkkdmenmgaaGreatDoor
open Go.RowKit Go.ChangeShapes Go.WideShapes Go.ChangeAt Go.Deep
section
variable {P : Program} {ops : Array Oper} {R : World → World → Prop} {w0 : World} {Q : Act → Prop} {a : Act} {op : Oper} {rest : List Oper}
theorem wpQX_loadG (hgd : Region.wanted op (yielded ops a.tmps) = true) (ty : TypeId) (x : Operand) (ho : op.op = .load ty x) (b o : Nat) (hx : a.eval x = .pointer (some ⟨b, o, none⟩)) (cs : List Value) (d : TypeDesc)
    (hS : ∀ l : RelW R w0, l.w.rangeAt b o cs) (hu : P.underlying ty = some d) (hd : d.isRow = true) (hi : (P.info? ty).map (·.size) = some cs.length)
    (h : wpQF P ops R w0 Q rest (a.put op.dst (.agg cs.toArray))) : wpQF P ops R w0 Q (op :: rest) a := wpQX_step fun K hK => by
  rw [if_pos hgd]
  refine ⟨.agg cs.toArray, fun l => ?_, hK _ h⟩
  unfold execOp
  simp only [ho, hx, Instr.loadAt, Instr.sureAddr, Sem.run_bind, Sem.run_pure, Result.andThen_ok, run_loadVar_mid l.w b o ty cs d (hS l) hu hd hi]
  exact ⟨rfl, rfl⟩
theorem wpQX_skip (hw : Region.wanted op (yielded ops a.tmps) = false) (h : wpQF P ops R w0 Q rest (a.put op.dst undef)) : wpQF P ops R w0 Q (op :: rest) a := wpQX_step fun K hK => by
  rw [if_neg (by rw [hw]; exact Bool.false_ne_true)]
  exact hK _ h
theorem wpQX_skips : ∀ (l rest : List Oper) (a : Act), skipB ops l a = true → wpQF P ops R w0 Q rest (putU l a) → wpQF P ops R w0 Q (l ++ rest) a
  | [], _, _, _, h => h
  | o :: l, rest, a, hs, h => by
    unfold skipB at hs
    rw [Bool.and_eq_true, Bool.not_eq_true'] at hs
    exact wpQX_skip hs.1 (wpQX_skips l rest _ hs.2 h)
/-- A step of a known value, and then as many as are left out by their guards. -/
theorem wpQX_val_skip (v : Value) (k : Nat) (hw : Region.wanted op (yielded ops a.tmps) = true) (hv : ∀ l : RelW R w0, (execOp a.eval op).run P l.w = .ok (.value v) l.w)
    (hs : skipB ops (rest.take k) (a.put op.dst v) = true) (h : wpQF P ops R w0 Q (rest.drop k) (putU (rest.take k) (a.put op.dst v))) : wpQF P ops R w0 Q (op :: rest) a := wpQX_step fun K hK => by
  rw [if_pos hw]
  refine ⟨v, fun l => ?_, hK _ ?_⟩
  · rw [hv l]
    exact ⟨rfl, rfl⟩
  · have := wpQX_skips (P := P) (ops := ops) (R := R) (w0 := w0) (Q := Q) (rest.take k) (rest.drop k) (a.put op.dst v) hs h
    rwa [List.take_append_drop] at this
end
namespace Store20
open Conf18 (Nd Vp Vw Cfg zA MapI lt_of_blk confF cfC CfgR CfgV zeroC)
open Addr05 (Adr MaxAt str_extract)
open Val19
section
variable {w : World} {B s p m mp lo hi n : Nat} {tv nv a1 a2 a3 sv wv : Value} {S : St} {P : Pl} {TO : Option Tx} {Z : Nat → Prop}
theorem plC_R (h : PlC w B p a1 a2 a3 sv wv P) : ∃ A1 A2 A3 k1 k2 k3, a1 = .slice A1 P.c.nodes.length k1 ∧ a2 = .slice A2 P.c.vips.length k2 ∧ a3 = .slice A3 P.c.views.length k3 ∧ CfgR w w.heap.size P.c A1 A2 A3 k1 k2 k3 := by
  obtain ⟨B1, j1, e1, -, -, h1⟩ := own_isv h.rows.nodes
  obtain ⟨B2, j2, e2, -, -, h2⟩ := own_isv h.rows.vips
  obtain ⟨B3, j3, e3, -, -, h3⟩ := own_isv h.rows.views
  exact ⟨B1, B2, B3, j1, j2, j3, e1, e2, e3, ⟨rfl, h1⟩, ⟨rfl, h2⟩, ⟨rfl, h3⟩⟩
def openP (P : Pl) : Pl := { P with made := true, op := true, fr := P.gen, wait := [] }
set_option maxHeartbeats 4000000 in
theorem open4 (h : PlC w B p a1 a2 a3 sv wv P) {w1 w2 w3 w4 : World} (e1 : w.setCell ⟨p, 15, none⟩ (.bool true) = w1) (e2 : w1.setCell ⟨p, 14, none⟩ (.bool true) = w2) (e3 : w2.setCell ⟨p, 16, none⟩ (.int .i64 (P.gen : Int)) = w3) (e4 : w3.setCell ⟨p, 17, none⟩ (.slice none 0 0) = w4) :
    PlC w4 B p a1 a2 a3 sv (.slice none 0 0) (openP P) ∧ KeptS w.heap.size (fun k => k = p) w w4 := by
  obtain ⟨g1, t1⟩ := keptS_cell h.blk e1
  obtain ⟨g2, t2⟩ := keptS_cell g1 e2
  obtain ⟨g3, t3⟩ := keptS_cell g2 e3
  obtain ⟨g4, t4⟩ := keptS_cell g3 e4
  have t : KeptS w.heap.size (fun k => k = p) w w4 := keptS_trans _ _ _ _ _ (keptS_trans _ _ _ _ _ (keptS_trans _ _ _ _ _ t1 (keptS_less t2 t1.size (fun k _ e => e))) (keptS_less t3 (by have := t1.size; have := t2.size; omega) (fun k _ e => e))) (keptS_less t4 (by have := t1.size; have := t2.size; have := t3.size; omega) (fun k _ e => e))
  have hty : Ty w p 37 := ⟨_, h.blk⟩
  have hr := h.rows.keptP t (fun k hq => by
    subst hq
    exact ⟨rowNo h.rows.nodes hty (by decide), rowNo h.rows.vips hty (by decide), rowNo h.rows.views hty (by decide), rowNo h.rows.sets hty (by decide), rowNo h.rows.wait hty (by decide)⟩)
  exact ⟨⟨g4, ⟨hr.nodes, hr.vips, hr.views, hr.sets, World.ownsRow_nil _ _ _ _⟩, h.hb⟩, t⟩
theorem Scene.begin (h : Scene w Z B s p m tv S P TO mp lo hi n nv a1 a2 a3 sv wv) {w1 w5 : World} (hT : TxC w1 B w.heap.size s (.slice none 0 0) ⟨S.gen, [], false⟩) (hb : Below w.heap.size w w1) {P' : Pl} (hP : PlC w5 B p a1 a2 a3 sv (.slice none 0 0) P') (hk : KeptS w1.heap.size (fun k => k = p) w1 w5) :
    Scene w5 Z B s p m (.pointer (some ⟨w.heap.size, 0, none⟩)) S P' (some ⟨S.gen, [], false⟩) mp lo hi n nv a1 a2 a3 sv (.slice none 0 0) := by
  have h1 := h.below hb
  have hty := h1.pl.ty.1
  refine ⟨h1.st.keptG hk (fun k e => ?_), hP, ⟨w.heap.size, _, rfl, hT.keptG hk (fun k e => ?_), .inr h.st.hh, (fun k e => by cases e), fun k hZ => ⟨by have := (h.fz k hZ).1; omega, by intro e; cases e⟩⟩, h.bs, h.n, h.ap, (fun k e => by cases e), StC.maxAt h1.max hk (fun e => h1.pl.max h1.max e.symm), h.mb, fun k hZ => ?_⟩
  · subst e; exact ⟨⟨_, hty, by decide⟩, h.ap⟩
  · subst e; exact .inr ⟨_, hty, by decide, by decide⟩
  · have := h1.fz k hZ
    exact ⟨Nat.lt_of_lt_of_le this.1 hk.size, this.2.1, this.2.2.1, this.2.2.2.1, by intro e; cases e⟩
theorem Rel.begin (h : Rel m S P TO) : Rel m S (openP P) (some ⟨S.gen, [], false⟩) :=
  ⟨⟨h.al.c, h.al.gen, h.al.sets⟩, ⟨h.ok.v, h.ok.len⟩, h.gen, h.sets, rfl, rfl, h.al.gen, ⟨rfl, fun i c o e _ => by simp at e⟩, Nat.zero_le _, fun o ho => by cases ho⟩
end
set_option maxRecDepth 20000 in
set_option maxHeartbeats 16000000 in
theorem plays_walk (A1 : Option Addr) (n1 c1 : Nat) (es : List Wo) (y : List UInt8) (hy : y.length ≤ maxLen) (w : World) (h1 : IsT woC 4 w w.heap.size A1 n1 es) (hf1 : ∀ x ∈ es, Wo.fits x) (hc1 : n1 ≤ c1 ∧ c1 ≤ maxLen) (hM : MaxAt w) :
    Calls Tryz.prog 3 #[.slice A1 n1 c1, .string (str y)] w fun e w' => e = .returned (.bool true) ∧ Below w.heap.size w w' := by
  have hl1 := h1.1
  have hmx : n1 ≤ 9223372036854775807 := by unfold maxLen at hc1; omega
  have q1 := snew_any w
  have hmb : 0 < w.heap.size := by
    obtain ⟨m, hm⟩ := hM
    exact World.block_lt_of_cell? w _ hm
  replace h1 := hide h1
  replace hf1 := hide hf1
  replace q1 := hide q1
  replace hM := hide hM
  replace hy := hide hy
  go_enter Tryz.func3, Tryz.ntmps3
  go_wp2_with fail
  refine (q1.out).mono ?_
  rintro e w1 ⟨s, mp, rfl, hs, hmp, hS1, hb1⟩
  obtain ⟨w2, hw2⟩ : ∃ w2, w1.alloc (.cells (plA P0 (.slice none 0 0) (.slice none 0 0) (.slice none 0 0) (.slice none 0 0) (.slice none 0 0)) 37) = w2 := ⟨_, rfl⟩
  have hb2 : Below w1.heap.size w1 w2 := hw2 ▸ (Below.refl _ _).alloc (Nat.le_refl _) _
  have hg2 : w2.heap[w1.heap.size]? = some (.cells (plA P0 (.slice none 0 0) (.slice none 0 0) (.slice none 0 0) (.slice none 0 0) (.slice none 0 0)) 37 (0, 0)) := hw2 ▸ blk_new _ _ _
  have hM2 := (hM.out.below hb1).below hb2
  have hB2 := hb1.trans (hb2.mono hb1.size)
  have hS2 := hS1.below hb2
  obtain ⟨p, hp⟩ : ∃ p, w1.heap.size = p := ⟨_, rfl⟩
  rw [hp] at hg2
  have hsc : ScE w2 (fun _ => False) w.heap.size s p 0 (.pointer none) S0 P0 none :=
    ⟨mp, _, _, 0, _, _, _, _, _, _, hS2, ⟨hg2, ⟨World.ownsRow_nil _ _ _ _, World.ownsRow_nil _ _ _ _, World.ownsRow_nil _ _ _ _, World.ownsRow_nil _ _ _ _, World.ownsRow_nil _ _ _ _⟩, by have := hb1.size; omega⟩, rfl, ⟨hs, hmp⟩, Nat.le_refl _, .inr (by have := hb1.size; omega), (fun k hk => by cases hk), hM2, hmb, fun k hk => hk.elim⟩
  replace hw2 : w1.alloc (.cells #[.slice none 0 0, .slice none 0 0, .slice none 0 0, .int .i64 0, .int .i64 0, .bool false, .int .u64 0, .int .u64 0, .bool false, .int .u64 0, .int .u64 0, .bool false, .int .i64 0, .slice none 0 0, .bool false, .bool false, .int .i64 0, .slice none 0 0] 37) = w2 := hw2
  clear q1 hb1 hb2 hg2 hM2 hS1 hS2
  replace hsc := hide hsc
  replace hB2 := hide hB2
  go_upto_region 3 with fail
  clear hw2 hp
  go_wp2_with fail
  go_loopw [7, 8, 9, 10, 11, 12, 13, 14] (fun tv iv _ _ _ _ _ _ wr => ∃ (i : Nat) (S : St) (P : Pl) (TO : Option Tx), i ≤ n1 ∧ i ≤ 40 ∧ iv = .int .i64 (i : Int) ∧ ScE wr (fun _ => False) w.heap.size s p (65 * i) tv S P TO ∧ Rel (65 * i) S P TO ∧ Below w.heap.size w wr) (fun _ iv _ _ _ _ _ _ _ => n1 - (intOf iv).toNat)
  case atStart => exact ⟨0, S0, P0, none, by omega, by omega, rfl, hsc.out, rel0, hB2.out⟩
  case round =>
    obtain ⟨i, S, P, TO, hi, hi40, rfl, hSc, hRl, hBr⟩ := hrel
    clear hsc hB2
    by_cases hin : i < n1 ∧ i < 40
    · have hlt : (i : Int) < (n1 : Int) := by omega
      have hlt4 : (i : Int) < 40 := by omega
      obtain ⟨b, off, o, rfl, hbk, hni, hcell⟩ := IsT.at (f := woC) (size := 4) (fun _ => rfl) (by decide) (h1.out.below hBr) hin.1
      have wi1 : IntKind.i64.wrap ((i : Int) + 1) = ((i + 1 : Nat) : Int) := by rw [wraps62 _ (by omega) (by omega)]; omega
      have hfo := hf1.out o (List.mem_of_getElem? hni)
      clear hni
      obtain ⟨ok, ot, on, ow⟩ := o
      have hfn : on.length ≤ maxLen := hfo.2
      have y0 : wr.cell? ⟨b, off + i * 4, none⟩ = some (.int .i64 ok) := hcell 0 _ rfl
      have y1 : wr.cell? ⟨b, off + i * 4 + 1, none⟩ = some (.string (str ot)) := hcell 1 _ rfl
      have y2 : wr.cell? ⟨b, off + i * 4 + 2, none⟩ = some (.string (str on)) := hcell 2 _ rfl
      have y3 : wr.cell? ⟨b, off + i * 4 + 3, none⟩ = some (.int .i64 ow) := hcell 3 _ rfl
      have hsz : (str ot).size = ot.length := Addr05.size_str ot
      obtain ⟨t1, ht1⟩ : ∃ t1, ot.take 2000 = t1 := ⟨_, rfl⟩
      have hlt1 : t1.length ≤ 2000 := by rw [← ht1, List.length_take]; omega
      clear hcell hfo
      replace hSc := hide hSc
      replace hRl := hide hRl
      replace hBr := hide hBr
      replace ht1 := hide ht1
      go_upto_region 7 with fail
      apply wp_region_lit
      iterate 4 (refine wpList_plain rfl fun K hK => ?_; go_simp; refine hK _ _ ?_; clear hK K)
      refine wpl_new rfl rfl 40 _ (alloc_wo _ rfl) 9 rfl (.tmp 31) rfl _ (fun _ => rfl) (fun _ => rfl) rfl (by kernel_rfl) (wo_one ok (str ot) (str on) ow) ?_
      intro w5 hg5 hb5 hz5
      refine wpList_nil ?_
      go_simp
      obtain ⟨z, hz⟩ : ∃ z, wr.heap.size = z := ⟨_, rfl⟩
      rw [hz] at hg5 hz5 ⊢
      have d0 := blk_cell hg5 0
      have d1 := blk_cell hg5 1
      have d2 := blk_cell hg5 2
      have d3 := blk_cell hg5 3
      clear y0 y1 y2 y3
      have f1 := blk_free hg5 1
      obtain ⟨w6, hw6⟩ : ∃ w6, w5.setCell ⟨z, 1, none⟩ (.string (str t1)) = w6 := ⟨_, rfl⟩
      obtain ⟨hg6, hk6⟩ := keptS_cell hg5 hw6
      have hb6 := below_step hb5 hk6 hb5.size (fun i hi e => by omega)
      clear hk6
      replace hb5 := hide hb5
      replace hz := hide hz
      replace hg5 := hide hg5
      replace hg6 := hide hg6
      replace hb6 := hide hb6
      go_upto_if 35 with fail
      go_cut [9] (fun zv wx => zv = .pointer (some ⟨z, 0, none⟩) ∧ wx.heap[z]? = some (.cells #[.int .i64 ok, .string (str t1), .string (str on), .int .i64 ow] 40 (0, 0)) ∧ Below wr.heap.size wr wx)
      case first =>
        by_cases h20 : 2000 < ot.length
        · have t1' : decide ((2000 : Int) < (ot.length : Int)) = true := by rw [decide_eq_true_eq]; omega
          have i1 : (2000 : Int) ≤ (ot.length : Int) := by omega
          have ex : (str ot).extract 0 2000 = str t1 := by rw [← ht1.out]; exact str_extract ot 0 2000
          go_wp2_with fail
          go_meet
          exact ⟨rfl, hg6.out, hb6.out⟩
        · have t1' : decide ((2000 : Int) < (ot.length : Int)) = false := by rw [decide_eq_false_iff_not]; omega
          have e1 : t1 = ot := by rw [← ht1.out]; exact List.take_of_length_le (by omega)
          clear hw6 hg6 hb6 w6
          subst e1
          go_wp2_with fail
          go_meet
          exact ⟨rfl, hg5.out, hb5.out⟩
      case rest =>
      obtain ⟨rfl, hg7, hb7⟩ := hcut
      clear hw6 hg5 hg6 hb5 hb6 d0 d1 d2 d3 f1
      have hfr := hSc.out.fresh hb7 ⟨Nat.le_of_eq hz.out, lt_of_blk hg7⟩
      have hBc := hBr.out.trans (hb7.mono hBr.out.size)
      have d0 := blk_cell hg7 0
      have d1 := blk_cell hg7 1
      have d2 := blk_cell hg7 2
      have d3 := blk_cell hg7 3
      have q := step_any ⟨ok, t1, on, ow⟩ wc (by dsimp only; omega) hfn hfr hRl.out (by unfold big; omega)
      dsimp only at q
      clear hSc hBr hg7 hb7 ht1 hz
      replace q := hide q
      replace hfr := hide hfr
      replace hBc := hide hBc
      go_upto_if 42 with fail
      go_cut [7] (fun tv wx => ∃ (S : St) (P : Pl) (TO : Option Tx), ScE wx (fun _ => False) w.heap.size s p (65 * i + 65) tv S P TO ∧ Rel (65 * i + 65) S P TO ∧ Below w.heap.size w wx)
      case first =>
        by_cases hk : ok = 2
        · subst hk
          obtain ⟨mp', lo, hi', n, nv, a1, a2, a3, sv, wv, hsc⟩ := hfr.out
          have g3 := begin_any hsc.st w.heap.size hBc.out.size
          clear q hfr
          replace g3 := hide g3
          replace hsc := hide hsc
          go_wp2_with fail
          refine (g3.out).mono ?_
          rintro e w8 ⟨rfl, hT8, hb8⟩
          have hsc8 := hsc.out.below hb8
          have hB8 := hBc.out.trans (hb8.mono hBc.out.size)
          obtain ⟨w9, hw9⟩ : ∃ w9, w8.setCell ⟨p, 15, none⟩ (.bool true) = w9 := ⟨_, rfl⟩
          obtain ⟨w10, hw10⟩ : ∃ w10, w9.setCell ⟨p, 14, none⟩ (.bool true) = w10 := ⟨_, rfl⟩
          obtain ⟨w11, hw11⟩ : ∃ w11, w10.setCell ⟨p, 16, none⟩ (.int .i64 (P.gen : Int)) = w11 := ⟨_, rfl⟩
          obtain ⟨w12, hw12⟩ : ∃ w12, w11.setCell ⟨p, 17, none⟩ (.slice none 0 0) = w12 := ⟨_, rfl⟩
          obtain ⟨g9, -⟩ := keptS_cell hsc8.pl.blk hw9
          obtain ⟨g10, -⟩ := keptS_cell g9 hw10
          obtain ⟨g11, -⟩ := keptS_cell g10 hw11
          have c15 := blk_cell hsc8.pl.blk 15
          have f15 := blk_free hsc8.pl.blk 15
          have c14 := blk_cell g9 14
          have f14 := blk_free g9 14
          have c12 := blk_cell g10 12
          have c16 := blk_cell g10 16
          have f16 := blk_free g10 16
          have c17 := blk_cell g11 17
          have f17 := blk_free g11 17
          unfold plA cfC at c15 c14 c12 c16 c17
          obtain ⟨hP12, hk12⟩ := open4 hsc8.pl hw9 hw10 hw11 hw12
          have hs12 := hsc.out.begin hT8 hb8 hP12 hk12
          have hB12 := below_step hB8 hk12 hB8.size (fun k hk e => by have := hsc8.pl.hb; omega)
          have hE12 : ScE w12 (fun k => False ∨ k = z) w.heap.size s p (65 * i) (.pointer (some ⟨wc.heap.size, 0, none⟩)) S (openP P) (some ⟨S.gen, [], false⟩) := ⟨_, _, _, _, _, _, _, _, _, _, hs12⟩
          have hfin : ∃ (S : St) (P : Pl) (TO : Option Tx), ScE w12 (fun _ => False) w.heap.size s p (65 * i + 65) (.pointer (some ⟨wc.heap.size, 0, none⟩)) S P TO ∧ Rel (65 * i + 65) S P TO ∧ Below w.heap.size w w12 :=
            ⟨S, openP P, some ⟨S.gen, [], false⟩, (hE12.less fun k hk => hk.elim).more (by omega), hRl.out.begin.more (by omega), hB12⟩
          clear g9 g10 g11 hP12 hk12 hs12 hE12 hB12 hB8 hsc8 hsc hT8 hb8 g3
          replace hfin := hide hfin
          go_wp2_with fail
          go_meet
          exact hfin.out
        · have hk2 : (ok == 2) = false := by rw [beq_eq_false_iff_ne]; exact hk
          go_wp2_with fail
          refine (q.out).mono ?_
          rintro e w8 ⟨rfl, h8⟩
          obtain ⟨S', P', TO', h9, h10, h11, -⟩ := h8
          have hfin : ∃ (S : St) (P : Pl) (TO : Option Tx), ScE w8 (fun _ => False) w.heap.size s p (65 * i + 65) u7 S P TO ∧ Rel (65 * i + 65) S P TO ∧ Below w.heap.size w w8 :=
            ⟨S', P', TO', h9.less fun k hk => hk.elim, h10, hBc.out.trans h11⟩
          clear q h9 h10 h11
          replace hfin := hide hfin
          go_wp2_with fail
          go_meet
          exact hfin.out
      case rest =>
      clear q hfr hBc hRl d0 d1 d2 d3
      obtain ⟨S', P', TO', hs8, hr8, hB8⟩ := hcut
      obtain ⟨mp', lo, hi', n, nv', a1, a2, a3, sv, wv, hsc⟩ := hs8
      have g1 := now_any hsc.st
      have hc := hr8.al.c
      have hgen := hr8.al.gen
      have hsets := hr8.al.sets
      have hsl := hr8.sets
      have hok := hr8.ok
      have hnow := hsc.st.now
      replace hsc := hide hsc
      replace hr8 := hide hr8
      replace hB8 := hide hB8
      replace g1 := hide g1
      replace hok := hide hok
      go_upto_region 18 with fail
      rcases hS : S'.c with _ | c
      · rw [hS] at hnow hc
        obtain rfl : nv' = .pointer none := hnow
        have hh : P'.has = false := by
          by_cases hh : P'.has = true
          · rw [if_pos hh] at hc; cases hc
          · simpa using hh
        clear hc hok
        go_wp2_with fail
        refine (g1.out).mono ?_
        rintro e wc ⟨rfl, rfl⟩
        clear g1
        go_upto_region 19 with fail
        refine wp_region_X (Below wc.heap.size) (by as_aux_lemma => kernel_rfl) ?_
        intro w9 hbd
        have hsc9 := hsc.out.below hbd
        have hB9 := hB8.out.trans (hbd.mono hB8.out.size)
        have g2 := gen_any hsc9.st
        rw [hgen] at g2
        have l12 := fun l : RelW (Below wc.heap.size) w9 => (show l.w.cell? ⟨p, 12, none⟩ = some (.int .i64 (P'.gen : Int)) from blk_cell (blk_below (hbd.trans l.hk) (lt_of_blk hsc.out.pl.blk) hsc.out.pl.blk) 12)
        have l11 := fun l : RelW (Below wc.heap.size) w9 => (show l.w.cell? ⟨p, 11, none⟩ = some (.bool false) from hh ▸ blk_cell (blk_below (hbd.trans l.hk) (lt_of_blk hsc.out.pl.blk) hsc.out.pl.blk) 11)
        clear hbd hsc hB8
        replace g2 := hide g2
        replace hsc9 := hide hsc9
        replace hB9 := hide hB9
        refine wpX_seg (Below wc.heap.size) 0 1 (fuel := 15) (by as_aux_lemma => kernel_rfl) (fun d _ _ _ _ h => by cases d <;> exact h) (by as_aux_lemma => kernel_rfl) (by as_aux_lemma => kernel_rfl) ?_
        simp only [List.drop_zero, List.take_succ_cons, List.take_zero]
        iterate 1 (refine wpQX_step (fun K hK => ?_); go_simp; refine hK _ ?_; clear hK K)
        refine wpQF_nil ?_
        refine wpX_seg (Below wc.heap.size) 2 4 (fuel := 11) (by as_aux_lemma => kernel_rfl) (fun d _ _ _ _ h => by cases d <;> exact h) (by as_aux_lemma => kernel_rfl) (by as_aux_lemma => kernel_rfl) ?_
        simp only [List.drop_succ_cons, List.drop_zero, List.take_succ_cons, List.take_zero]
        iterate 4 (refine wpQX_step (fun K hK => ?_); go_simp; refine hK _ ?_; clear hK K)
        refine wpQF_nil ?_
        refine wpF_step 1 rfl (by as_aux_lemma => kernel_rfl) (fun K hK => ?_)
        go_simp
        go_at_call 8
        refine g2.out.mono ?_
        rintro e w9 ⟨rfl, rfl⟩
        refine hK _ _ (IsRel.refl _) ?_
        clear hK K g2
        refine wpX_seg (Below wc.heap.size) 6 10 (fuel := 0) (by as_aux_lemma => kernel_rfl) (fun d _ _ _ _ h => by cases d <;> exact h) (by as_aux_lemma => kernel_rfl) (by as_aux_lemma => kernel_rfl) ?_
        simp only [List.drop_succ_cons, List.drop_zero, List.take_succ_cons, List.take_zero]
        iterate 10 (refine wpQX_step (fun K hK => ?_); go_simp; refine hK _ ?_; clear hK K)
        refine wpQF_nil ?_
        clear l11 l12
        refine wpF_done (by as_aux_lemma => kernel_rfl) ?_ 0
        go_upto_region 21 with fail
        refine wp_region_X (Below w9.heap.size) (by as_aux_lemma => kernel_rfl) ?_
        intro w10 hbd
        have hsc10 := hsc9.out.below hbd
        have hB10 := hB9.out.trans (hbd.mono hB9.out.size)
        have g4 := set_any hsc10.st y hy.out
        have g5 := wof_any hsc10.pl (by unfold big; omega) y
        rw [hsets] at g4
        obtain ⟨X, hX⟩ : ∃ X, lastW P'.sets y = X := ⟨_, rfl⟩
        rw [hX] at g4 g5
        obtain ⟨xN, hxN⟩ : ∃ N, X.getD 0 = N := ⟨_, rfl⟩
        obtain ⟨xB, hxB⟩ : ∃ b, X.isSome = b := ⟨_, rfl⟩
        rw [hxN, hxB] at g4 g5
        have hE : ScE w10 (fun _ => False) w.heap.size s p (65 * i + 65) u7 S' P' TO' := ⟨mp', lo, hi', n, _, a1, a2, a3, sv, wv, hsc10⟩
        have hnx : ∃ (i' : Nat) (S : St) (P : Pl) (TO : Option Tx), i' ≤ n1 ∧ i' ≤ 40 ∧ Value.int .i64 ((i + 1 : Nat) : Int) = .int .i64 (i' : Int) ∧ ScE w10 (fun _ => False) w.heap.size s p (65 * i') u7 S P TO ∧ Rel (65 * i') S P TO ∧ Below w.heap.size w w10 :=
          ⟨i + 1, S', P', TO', by omega, by omega, rfl, by rw [show 65 * (i + 1) = 65 * i + 65 by omega]; exact hE, by rw [show 65 * (i + 1) = 65 * i + 65 by omega]; exact hr8.out, hB10⟩
        clear hX hxN hxB hE
        clear hbd hsc9 hB9 hsc10 hB10 hr8
        replace g4 := hide g4
        replace g5 := hide g5
        replace hnx := hide hnx
        refine wpX_seg (Below w9.heap.size) 0 14 (fuel := 0) (by as_aux_lemma => kernel_rfl) (fun d _ _ _ _ h => by cases d <;> exact h) (by as_aux_lemma => kernel_rfl) (by as_aux_lemma => kernel_rfl) ?_
        simp only [List.drop_zero, List.take_succ_cons, List.take_zero]
        iterate 2 (refine wpQX_step (fun K hK => ?_); go_simp; refine hK _ ?_; clear hK K)
        refine wpQX_val_skip (.bool false) 10 rfl (fun l => rfl) (by as_aux_lemma => kernel_rfl) ?_
        dsimp only [putU, List.take_succ_cons, List.take_zero, List.drop_succ_cons, List.drop_zero, Act.put]
        iterate 1 (refine wpQX_step (fun K hK => ?_); go_simp; refine hK _ ?_; clear hK K)
        refine wpQF_nil ?_
        refine wpF_done (by as_aux_lemma => kernel_rfl) ?_ 0
        go_wp2_with fail
        refine (g4.out).mono ?_
        rintro e w10 ⟨rfl, rfl⟩
        clear g4
        go_wp2_with fail
        refine (g5.out).mono ?_
        rintro e w10 ⟨rfl, rfl⟩
        clear g5
        go_wp2_with fail
        exact ⟨hnx.out, by simp only [intOf]; omega⟩
      · rw [hS] at hnow hc
        have hh : P'.has = true := by
          by_cases hh : P'.has = true
          · exact hh
          · rw [if_neg hh] at hc; cases hc
        rw [if_pos hh] at hc
        obtain rfl : c = P'.c := Option.some.inj hc
        obtain ⟨x, e2, hV2⟩ := hnow
        subst e2
        have hv := hok.out.v hh
        have hsm := plain_small (validF_parts hv.1).1
        have hsm4 : P'.c.small 4096 := by
          have := treeF_len (validF_parts hv.1).2.1
          exact ⟨by omega, by omega, by omega⟩
        obtain ⟨⟨A6, A7, A8, k6, k7, k8, t6, hb6, hx6, hcv6, -⟩⟩ := hV2.at
        have hR6 := (cfgV_R hcv6).1
        obtain ⟨A3, A4, A5, k3, k4, k5, rfl, rfl, rfl, hR3⟩ := plC_R hsc.out.pl
        have hb3 := hsc.out.pl.blk
        clear hV2 hcv6 hc hok hv
        replace hR3 := hide hR3
        replace hR6 := hide hR6
        replace hb3 := hide hb3
        replace hb6 := hide hb6
        go_wp2_with fail
        refine (g1.out).mono ?_
        rintro e wc ⟨rfl, rfl⟩
        clear g1
        go_upto_region 19 with fail
        refine wp_region_X (Below wc.heap.size) (by as_aux_lemma => kernel_rfl) ?_
        intro w9 hbd
        have hb39 := blk_below hbd (lt_of_blk hb3.out) hb3.out
        have hb69 := blk_below hbd (lt_of_blk hb6.out) hb6.out
        have hR39 := hR3.out.on hbd
        have hR69 := hR6.out.on hbd
        have hsc9 := hsc.out.below hbd
        have hB9 := hB8.out.trans (hbd.mono hB8.out.size)
        have g2 := gen_any hsc9.st
        rw [hgen] at g2
        have l12 := fun l : RelW (Below wc.heap.size) w9 => (show l.w.cell? ⟨p, 12, none⟩ = some (.int .i64 (P'.gen : Int)) from blk_cell (blk_below (hbd.trans l.hk) (lt_of_blk hsc.out.pl.blk) hsc.out.pl.blk) 12)
        have l11 := fun l : RelW (Below wc.heap.size) w9 => (show l.w.cell? ⟨p, 11, none⟩ = some (.bool true) from hh ▸ blk_cell (blk_below (hbd.trans l.hk) (lt_of_blk hsc.out.pl.blk) hsc.out.pl.blk) 11)
        clear hbd hsc hB8 hb3 hb6 hR3 hR6
        replace g2 := hide g2
        replace hsc9 := hide hsc9
        replace hB9 := hide hB9
        replace hb39 := hide hb39
        replace hb69 := hide hb69
        replace hR39 := hide hR39
        replace hR69 := hide hR69
        refine wpX_seg (Below wc.heap.size) 0 1 (fuel := 15) (by as_aux_lemma => kernel_rfl) (fun d _ _ _ _ h => by cases d <;> exact h) (by as_aux_lemma => kernel_rfl) (by as_aux_lemma => kernel_rfl) ?_
        simp only [List.drop_zero, List.take_succ_cons, List.take_zero]
        iterate 1 (refine wpQX_step (fun K hK => ?_); go_simp; refine hK _ ?_; clear hK K)
        refine wpQF_nil ?_
        refine wpX_seg (Below wc.heap.size) 2 4 (fuel := 11) (by as_aux_lemma => kernel_rfl) (fun d _ _ _ _ h => by cases d <;> exact h) (by as_aux_lemma => kernel_rfl) (by as_aux_lemma => kernel_rfl) ?_
        simp only [List.drop_succ_cons, List.drop_zero, List.take_succ_cons, List.take_zero]
        iterate 4 (refine wpQX_step (fun K hK => ?_); go_simp; refine hK _ ?_; clear hK K)
        refine wpQF_nil ?_
        refine wpF_step 1 rfl (by as_aux_lemma => kernel_rfl) (fun K hK => ?_)
        go_simp
        go_at_call 8
        refine g2.out.mono ?_
        rintro e w9 ⟨rfl, rfl⟩
        refine hK _ _ (IsRel.refl _) ?_
        clear hK K g2
        refine wpX_seg (Below wc.heap.size) 6 10 (fuel := 0) (by as_aux_lemma => kernel_rfl) (fun d _ _ _ _ h => by cases d <;> exact h) (by as_aux_lemma => kernel_rfl) (by as_aux_lemma => kernel_rfl) ?_
        simp only [List.drop_succ_cons, List.drop_zero, List.take_succ_cons, List.take_zero]
        iterate 10 (refine wpQX_step (fun K hK => ?_); go_simp; refine hK _ ?_; clear hK K)
        refine wpQF_nil ?_
        clear l11 l12
        refine wpF_done (by as_aux_lemma => kernel_rfl) ?_ 0
        go_upto_region 21 with fail
        refine wp_region_X (Below w9.heap.size) (by as_aux_lemma => kernel_rfl) ?_
        intro w10 hbd
        have hsc10 := hsc9.out.below hbd
        have hB10 := hB9.out.trans (hbd.mono hB9.out.size)
        have qs := vsame_any P'.c hsm4 w10 A6 A7 A8 A3 A4 A5 k6 k7 k8 k3 k4 k5 (hR69.out.on hbd) (hR39.out.on hbd)
        have z10 := hbd.size
        have lx := fun l : RelW (Below w9.heap.size) w10 => range_of (blk_below (hbd.trans l.hk) (lt_of_blk hb69.out) hb69.out)
        have ly := fun l : RelW (Below w9.heap.size) w10 => plA_range (blk_below (hbd.trans l.hk) (lt_of_blk hb39.out) hb39.out)
        clear hbd hsc9 hB9 hb39 hb69 hR39 hR69
        replace qs := hide qs
        replace hsc10 := hide hsc10
        replace hB10 := hide hB10
        refine wpX_seg (Below w9.heap.size) 0 11 (fuel := 3) (by as_aux_lemma => kernel_rfl) (fun d _ _ _ _ h => by cases d <;> exact h) (by as_aux_lemma => kernel_rfl) (by as_aux_lemma => kernel_rfl) ?_
        simp only [List.drop_zero, List.take_succ_cons, List.take_zero]
        iterate 6 (refine wpQX_step (fun K hK => ?_); go_simp; refine hK _ ?_; clear hK K)
        refine wpQX_loadG (by first | rfl | (go_simp; done) | simp [Region.wanted]) 34 (.tmp 90) rfl x 0 rfl _ _ lx Tryz.underlying34 rfl (by kernel_rfl) ?_
        iterate 3 (refine wpQX_step (fun K hK => ?_); go_simp; refine hK _ ?_; clear hK K)
        refine wpQX_loadG (by first | rfl | (go_simp; done) | simp [Region.wanted]) 34 (.tmp 94) rfl p 0 rfl _ _ ly Tryz.underlying34 rfl (by kernel_rfl) ?_
        simp only [Array.toArray_toList]
        refine wpQF_nil ?_
        clear lx ly
        refine wpF_step 11 rfl (by as_aux_lemma => kernel_rfl) (fun K hK => ?_)
        go_simp
        go_at_call 9
        refine qs.out.mono ?_
        rintro e w11 ⟨rfl, hb11⟩
        refine hK _ _ (hb11.mono z10) ?_
        clear hK K
        have hB11 := hB10.out.trans (hb11.mono hB10.out.size)
        have hsc11 := hsc10.out.below hb11
        have g4 := set_any hsc11.st y hy.out
        have g5 := wof_any hsc11.pl (by unfold big; omega) y
        rw [hsets] at g4
        obtain ⟨X, hX⟩ : ∃ X, lastW P'.sets y = X := ⟨_, rfl⟩
        rw [hX] at g4 g5
        obtain ⟨xN, hxN⟩ : ∃ N, X.getD 0 = N := ⟨_, rfl⟩
        obtain ⟨xB, hxB⟩ : ∃ b, X.isSome = b := ⟨_, rfl⟩
        rw [hxN, hxB] at g4 g5
        have hE : ScE w11 (fun _ => False) w.heap.size s p (65 * i + 65) u7 S' P' TO' := ⟨mp', lo, hi', n, _, _, _, _, sv, wv, hsc11⟩
        have hnx : ∃ (i' : Nat) (S : St) (P : Pl) (TO : Option Tx), i' ≤ n1 ∧ i' ≤ 40 ∧ Value.int .i64 ((i + 1 : Nat) : Int) = .int .i64 (i' : Int) ∧ ScE w11 (fun _ => False) w.heap.size s p (65 * i') u7 S P TO ∧ Rel (65 * i') S P TO ∧ Below w.heap.size w w11 :=
          ⟨i + 1, S', P', TO', by omega, by omega, rfl, by rw [show 65 * (i + 1) = 65 * i + 65 by omega]; exact hE, by rw [show 65 * (i + 1) = 65 * i + 65 by omega]; exact hr8.out, hB11⟩
        clear hX hxN hxB hE
        clear qs hb11 hB10 hsc10 hsc11 hB11 hr8
        replace g4 := hide g4
        replace g5 := hide g5
        replace hnx := hide hnx
        refine wpX_seg (Below w9.heap.size) 12 2 (fuel := 0) (by as_aux_lemma => kernel_rfl) (fun d _ _ _ _ h => by cases d <;> exact h) (by as_aux_lemma => kernel_rfl) (by as_aux_lemma => kernel_rfl) ?_
        simp only [List.drop_succ_cons, List.drop_zero, List.take_succ_cons, List.take_zero]
        iterate 2 (refine wpQX_step (fun K hK => ?_); go_simp; refine hK _ ?_; clear hK K)
        refine wpQF_nil ?_
        refine wpF_done (by as_aux_lemma => kernel_rfl) ?_ 0
        go_wp2_with fail
        refine (g4.out).mono ?_
        rintro e w11 ⟨rfl, rfl⟩
        clear g4
        go_wp2_with fail
        refine (g5.out).mono ?_
        rintro e w11 ⟨rfl, rfl⟩
        clear g5
        go_wp2_with fail
        exact ⟨hnx.out, by simp only [intOf]; omega⟩
    · obtain ⟨mp', lo, hi', n, nv, a1, a2, a3, sv, wv, hsc⟩ := hSc
      have qa := sawake_any wr hsc.max
      clear hsc hRl
      replace qa := hide qa
      replace hBr := hide hBr
      go_upto_region 5 with fail
      go_cut [25] (fun bv wx => bv = .bool false ∧ wr = wx)
      case first =>
        by_cases hlt : (i : Int) < (n1 : Int)
        · have hlt4 : ¬((i : Int) < 40) := by omega
          go_wp2_with fail
          go_meet
          exact ⟨rfl, rfl⟩
        · go_wp2_with fail
          go_meet
          exact ⟨rfl, rfl⟩
      case rest =>
      obtain ⟨rfl, rfl⟩ := hcut
      go_wp2_with fail
      refine (qa.out).mono ?_
      rintro e w3 ⟨rfl, hb3⟩
      have hB3 := hBr.out.trans (hb3.mono hBr.out.size)
      clear qa hb3 hBr
      replace hB3 := hide hB3
      go_wp2_with fail
      go_ret
      exact ⟨rfl, hB3.out⟩
theorem plays_row (A1 : Option Addr) (n1 c1 : Nat) (es : List Wo) (y : ByteArray) (w : World) (h1 : IsT woC 4 w w.heap.size A1 n1 es ∧ ∀ x ∈ es, Wo.fits x) (hn1 : n1 ≤ c1) (hc1 : c1 ≤ maxLen) (hy : y.size ≤ maxLen) (hM : MaxAt w) :
    Calls Tryz.prog 3 #[.slice A1 n1 c1, .string y] w fun e w' => e = .returned (.bool true) ∧ Below w.heap.size w w' := by
  have h := plays_walk A1 n1 c1 es y.data.toList (by rw [Array.length_toList]; exact hy) w h1.1 h1.2 ⟨hn1, hc1⟩ hM
  rw [show str y.data.toList = y by cases y; rfl] at h
  exact h
end Store20
end Go.Proofs.YtcpokkkdmenmgaaGreatDoor
