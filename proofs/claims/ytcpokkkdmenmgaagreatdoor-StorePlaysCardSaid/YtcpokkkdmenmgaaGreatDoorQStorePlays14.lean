/- conf: vip: a line that says which address is balanced. Conditions: words of at most 2^16 bytes. -/
import Derived.Test.YtcpokkkdmenmgaaGreatDoorQStorePlays12
import Derived.Test.YtcpokkkdmenmgaaGreatDoorQStorePlays9
import Derived.Test.YtcpokkkdmenmgaaGreatDoorQStorePlays10
namespace Go.Proofs.YtcpokkkdmenmgaaGreatDoor
open Go.RowKit Go.ChangeShapes Go.WideShapes Go.ChangeAt Go.Deep
namespace Conf18
open Addr05
theorem alloc_vp (o : Oper) (h : o.op = .alloc 70) (ρ : Operand → Value) (w : World) : (execOp ρ o).run Tryz.prog w = .ok (.value (.pointer (some ⟨w.heap.size, 0, none⟩))) (w.alloc (.cells #[.bool false, .int .u64 0, .int .u64 0, .int .i64 0, .int .i64 0, .int .i64 0, .bool false] 70)) := by
  obtain ⟨d, op, t, ps, af, g⟩ := o
  dsimp only at h
  subst h
  kernel_rfl
theorem vp_one (v6 : Bool) (hi lo p q n : Int) (t : Bool) : (#[.bool v6, .int .u64 hi, .int .u64 lo, .int .i64 p, .int .i64 q, .int .i64 n, .bool t] : Array Value).all (·.oneCell') = true := all_oneCell_toArray (by
  intro u hu
  simp only [List.mem_cons, List.not_mem_nil, or_false] at hu
  rcases hu with rfl | rfl | rfl | rfl | rfl | rfl | rfl <;> rfl)
theorem isr_from {w : World} {B n b off c : Nat} {ws : List (List UInt8)} (h : IsR strv w B (some ⟨b, off, none⟩) n ws) (k : Nat) (hk : k ≤ n) (hc : n ≤ c) : IsR strv w B (if c = k then some ⟨b, off, none⟩ else some ⟨b, off + k, none⟩) (n - k) (ws.drop k) := by
  by_cases e : c = k
  · rw [if_pos e]
    have hn : n = k := by omega
    have hl := h.len
    rw [List.drop_eq_nil_of_le (by omega), show n - k = 0 by omega]
    exact IsR.none
  · rw [if_neg e]
    exact IsR.drop h k
/-- Where a word of the rest stands. -/
theorem word_at {w : World} {B n : Nat} {A : Option Addr} {ws : List (List UInt8)} (h : IsR strv w B A n ws) (hn : 0 < n) : ∃ b off, A = some ⟨b, off, none⟩ ∧ b < B ∧ ∀ i, i < n → w.cell? ⟨b, off + i, none⟩ = some (.string (str (wd ws i))) := by
  have hl := h.len
  subst hl
  exact words_at h hn
set_option maxRecDepth 20000 in
set_option maxHeartbeats 16000000 in
theorem vip_any (ws : List (List UInt8)) (c : Cfg) (w : World) (base x cap : Nat) (A : Option Addr) (hx : IsR strv w base A ws.length ws) (hcap : ws.length ≤ cap) (hcm : cap ≤ maxLen) (hl : ∀ y ∈ ws, y.length ≤ 65536) (hm : MaxAt w) (hs : c.small 4096) (hR : RdAt base x w c) :
    Calls Tryz.prog 49 #[.pointer (some ⟨x, 0, none⟩), .slice A ws.length cap] w fun e w' => LineEnd (RdAt base x) base (vipF c ws) w w' e := by
  obtain ⟨r, hr⟩ : ∃ r, vipF c ws = r := ⟨_, rfl⟩
  rw [hr]
  have hlw : ∀ i, (wd ws i).length ≤ 65536 := by
    intro i
    rcases Nat.lt_or_ge i ws.length with h1 | h1
    · rw [wd_get (List.getElem?_eq_getElem h1)]
      exact hl _ (List.getElem_mem h1)
    · unfold wd
      rw [List.getD_eq_getElem?_getD, List.getElem?_eq_none h1]
      exact Nat.zero_le _
  by_cases hn : ws.length < 4
  · have t : (ws.length : Int) < 4 := by omega
    unfold vipF at hr
    rw [if_pos hn] at hr
    clear hn hx hl hm hlw
    replace hR := hide hR
    replace hr := hide hr
    go_enter Tryz.func49, Tryz.ntmps49
    go_wp2_with fail
    go_ret
    exact lineEnd_err hr.out.symm (by decide) (Below.refl _ _)
  unfold vipF at hr
  rw [if_neg hn] at hr
  obtain ⟨b, off, rfl, hb, hc⟩ := words_at hx (by omega)
  have c1 := hc 1 (by omega)
  have c2 := hc 2 (by omega)
  have c3 := hc 3 (by omega)
  clear hc
  have hx4 := isr_from hx 4 (by omega) hcap
  have t : ¬ (ws.length : Int) < 4 := by omega
  have q := Parse_any (wd ws 1) (hlw 1) w hm
  have q3 := fun w => lexNum_any (wd ws 3) (Nat.le_trans (hlw 3) (by decide)) 65535 w
  have qp := fun w => proto_any (wd ws 2) w
  obtain ⟨mb, ma, nv, vv, wv, h⟩ := hR
  have hbx := h.cfg.hx
  have hxs := h.xlt
  obtain ⟨z0, hz0⟩ : ∃ z, w.heap.size = z := ⟨_, rfl⟩
  have hbz : base ≤ z0 := by omega
  obtain ⟨A4, hA4⟩ : ∃ A4, (if cap = 4 then some ⟨b, off, none⟩ else some ⟨b, off + 4, none⟩ : Option Addr) = A4 := ⟨_, rfl⟩
  rw [hA4] at hx4
  obtain ⟨n, hnl⟩ : ∃ n, ws.length = n := ⟨_, rfl⟩
  rw [hnl] at hx4 hcap hn t ⊢
  obtain ⟨m4, hm4⟩ : ∃ m4, n - 4 = m4 := ⟨_, rfl⟩
  rw [hm4] at hx4
  have n1 : (1 : Int) < (n : Int) := by omega
  have n2 : (2 : Int) < (n : Int) := by omega
  have n3 : (3 : Int) < (n : Int) := by omega
  have n4 : (4 : Int) ≤ (n : Int) := by omega
  clear hx hl hm hn
  rcases hp : parseF (wd ws 1) with _ | ad
  · rw [hp] at hr q
    have q1 : Calls Tryz.prog 62 #[.string (str (wd ws 1))] w fun e w' => e = .returned (.tuple #[.agg #[.bool false, .int .u64 0, .int .u64 0], .int .i64 18]) ∧ Below w.heap.size w w' := q
    clear q
    replace h := hide h
    replace hr := hide hr
    replace q1 := hide q1
    replace q3 := hide q3
    replace qp := hide qp
    replace hp := hide hp
    replace hx4 := hide hx4
    replace hlw := hide hlw
    replace hnl := hide hnl
    go_enter Tryz.func49, Tryz.ntmps49
    go_upto_region 3 with fail
    apply wp_region_lit
    iterate 3 (refine wpList_plain rfl fun K hK => ?_; go_simp; refine hK _ _ ?_; clear hK K)
    refine wpList_plain rfl fun K hK => ?_
    go_simp
    refine (q1.out).mono ?_
    rintro e w1 ⟨rfl, hb1⟩
    go_simp
    refine hK _ _ ?_
    clear hK K
    iterate 3 (refine wpList_plain rfl fun K hK => ?_; go_simp; refine hK _ _ ?_; clear hK K)
    refine wpl_new rfl rfl 31 _ (alloc_adr _ rfl) 5 rfl (.tmp 21) rfl _ (fun _ => rfl) (fun _ => rfl) rfl (by kernel_rfl) (adr_one false 0 0) ?_
    intro w2 hg2 hb2 hz2
    iterate 1 (refine wpList_plain rfl fun K hK => ?_; go_simp; refine hK _ _ ?_; clear hK K)
    refine wpList_nil ?_
    go_simp
    have hb3 := hb1.trans (hb2.mono (by have := hb1.size; omega))
    clear hg2 hb1 hb2
    replace hb3 := hide hb3
    go_wp2_with fail
    refine bodyPost_ret (v := .int .i64 18) (by simp [results, Tryz.results49, go_sem]) rfl ?_
    exact lineEnd_err hr.out.symm (by decide) hb3.out
  rw [hp] at hr q
  obtain ⟨v6, hi, lo⟩ := ad
  have q1 : Calls Tryz.prog 62 #[.string (str (wd ws 1))] w fun e w' => e = .returned (.tuple #[.agg #[.bool v6, .int .u64 (hi : Int), .int .u64 (lo : Int)], .int .i64 0]) ∧ Below w.heap.size w w' := q
  clear q
  dsimp only at hr
  obtain ⟨o3, ho3⟩ : ∃ o, lexF (wd ws 3) 65535 = o := ⟨_, rfl⟩
  rw [ho3] at hr q3
  obtain ⟨p, hpp⟩ : ∃ p, protoF (wd ws 2) = p := ⟨_, rfl⟩
  rw [hpp] at hr qp
  replace h := hide h
  replace hr := hide hr
  replace q1 := hide q1
  replace q3 := hide q3
  replace qp := hide qp
  replace hp := hide hp
  replace hx4 := hide hx4
  replace hlw := hide hlw
  replace hnl := hide hnl
  replace ho3 := hide ho3
  replace hpp := hide hpp
  go_enter Tryz.func49, Tryz.ntmps49
  go_upto_region 3 with fail
  apply wp_region_lit
  iterate 3 (refine wpList_plain rfl fun K hK => ?_; go_simp; refine hK _ _ ?_; clear hK K)
  refine wpList_plain rfl fun K hK => ?_
  go_simp
  refine (q1.out).mono ?_
  rintro e w1 ⟨rfl, hb1⟩
  go_simp
  refine hK _ _ ?_
  clear hK K
  iterate 3 (refine wpList_plain rfl fun K hK => ?_; go_simp; refine hK _ _ ?_; clear hK K)
  refine wpl_new rfl rfl 31 _ (alloc_adr _ rfl) 5 rfl (.tmp 21) rfl _ (fun _ => rfl) (fun _ => rfl) rfl (by kernel_rfl) (adr_one v6 (hi : Int) (lo : Int)) ?_
  intro w2 hg2 hb2 hz2
  iterate 1 (refine wpList_plain rfl fun K hK => ?_; go_simp; refine hK _ _ ?_; clear hK K)
  refine wpList_nil ?_
  go_simp
  rw [hz0] at hb1
  have hz1 := hb1.size
  have hb3 := hb1.trans (hb2.mono (by omega))
  have c2b := (hb3.cell (p := ⟨b, off + 2, none⟩) (by dsimp only; omega)).trans c2
  have c3b := (hb3.cell (p := ⟨b, off + 3, none⟩) (by dsimp only; omega)).trans c3
  clear hb1 hb2 q1
  replace hb3 := hide hb3
  replace hg2 := hide hg2
  have q4 := q3.out w2
  clear q3
  unfold lexV at q4
  obtain ⟨PV, hPV⟩ : ∃ v, o3.getD 0 = v := ⟨_, rfl⟩
  obtain ⟨OK, hOK⟩ : ∃ v, o3.isSome = v := ⟨_, rfl⟩
  rw [hPV, hOK] at q4
  replace q4 := hide q4
  replace hPV := hide hPV
  replace hOK := hide hOK
  go_wp2_with fail
  refine (q4.out).mono ?_
  rintro e w2 ⟨rfl, rfl⟩
  go_upto_region 7 with fail
  refine wp_region_X (Below (w1.heap.size + 1)) (by as_aux_lemma => kernel_rfl) ?_
  intro w7 hbd
  have hbd2 := hb3.out.trans (hbd.mono (by omega))
  have hgd := blk_below hbd (by omega) hg2.out
  have hzd := hbd.size
  have la := fun l : RelW (Below (w1.heap.size + 1)) w7 => blk_cell (blk_below l.hk (by omega) hgd)
  have lc := fun l : RelW (Below (w1.heap.size + 1)) w7 => (l.hk.cell (p := ⟨b, off + 2, none⟩) (by dsimp only; omega)).trans ((hbd.cell (p := ⟨b, off + 2, none⟩) (by dsimp only; omega)).trans c2b)
  have h9 := h
  clear hb3 hg2 hbd q4 h c1 c2 c3 c2b c3b
  replace hbd2 := hide hbd2
  refine wpX_seg (Below (w1.heap.size + 1)) 0 7 (fuel := 2) (by as_aux_lemma => kernel_rfl) (fun d _ _ _ _ h => by cases d <;> exact h) (by as_aux_lemma => kernel_rfl) (by as_aux_lemma => kernel_rfl) ?_
  simp only [List.drop_zero, List.take_succ_cons, List.take_zero]
  iterate 4 (refine wpQX_step (fun K hK => ?_); go_simp; refine hK _ ?_; clear hK K)
  (refine wpQX_step (fun K hK => ?_); go_simp; apply Exists.intro; refine ⟨fun l => ?_, hK _ ?_⟩; (go_at_call 63; refine (qp.out l.w).mono ?_; rintro e w' ⟨rfl, hb⟩; exact ⟨rfl, hb.symm⟩); clear hK K)
  iterate 2 (refine wpQX_step (fun K hK => ?_); go_simp; refine hK _ ?_; clear hK K)
  refine wpQF_nil ?_
  clear la lc
  refine wpF_step 7 rfl (by as_aux_lemma => kernel_rfl) (fun K hK => ?_)
  go_simp
  refine hK _ _ ((Below.refl _ _).alloc (by omega) _) ?_
  clear hK K
  have hn8 := blk_new w7 70 #[.bool false, .int .u64 0, .int .u64 0, .int .i64 0, .int .i64 0, .int .i64 0, .bool false]
  obtain ⟨w8, hw8⟩ : ∃ w8, w7.alloc (.cells #[.bool false, .int .u64 0, .int .u64 0, .int .i64 0, .int .i64 0, .int .i64 0, .bool false] 70) = w8 := ⟨_, rfl⟩
  have hb8 : Below w7.heap.size w7 w8 := hw8 ▸ (Below.refl _ _).alloc (Nat.le_refl _) _
  obtain ⟨zv, hzv⟩ : ∃ zv, w7.heap.size = zv := ⟨_, rfl⟩
  change wpF _ _ _ _ _ _ _ _ (w7.alloc (.cells #[.bool false, .int .u64 0, .int .u64 0, .int .i64 0, .int .i64 0, .int .i64 0, .bool false] 70))
  rw [hw8] at hn8 ⊢
  have hz8 : zv < w8.heap.size := by rw [hzv] at hn8; exact lt_of_blk hn8
  clear hw8
  refine wpF_step 8 rfl (by as_aux_lemma => kernel_rfl) (fun K hK => ?_)
  rw [if_pos (by unfold Region.wanted; rfl)]
  refine wp_st 70 (.tmp 9) (.tmp 39) rfl w7.heap.size 0 rfl #[.bool v6, .int .u64 (hi : Int), .int .u64 (lo : Int), .int .i64 (p : Int), .int .i64 (PV : Int), .int .i64 1, .bool false] rfl hn8 (by simp) (by kernel_rfl) (vp_one _ _ _ _ _ _ _) fun w9 hg9 g9 => ?_
  refine hK _ _ (below_grown g9 (by omega) (by omega)) ?_
  clear hK K
  rw [putA_whole _ _ (by rfl)] at hg9
  have hb9 := hbd2.out.trans ((hb8.mono (by omega)).trans (below_grown g9 (by omega) (by omega)))
  have hz9 := lt_of_blk hg9
  clear hn8 hb8 g9 hbd2
  rw [hzv] at hg9 hz9
  refine wpF_done (by as_aux_lemma => kernel_rfl) ?_ 0
  rw [hzv]
  have hbz2 : z0 ≤ zv := by omega
  have kp : w9.cell? ⟨zv, 3, none⟩ = some (.int .i64 (p : Int)) := blk_cell hg9 3
  clear hzv hz1 hz2 hzd hz8
  replace hg9 := hide hg9
  replace hb9 := hide hb9
  by_cases hp0 : p = 0
  · subst hp0
    have hr4 : Except.error 4 = r := by
      rw [← hr.out]
      rcases o3 with _ | v
      · rfl
      · exact (if_pos rfl).symm
    clear hr
    replace hr4 := hide hr4
    go_wp2_with fail
    refine bodyPost_ret (v := .int .i64 4) (by simp [results, Tryz.results49, go_sem]) rfl ?_
    exact lineEnd_err hr4.out.symm (by decide) (by rw [hz0]; exact hb9.out)
  have tp : ((p : Int) == 0) = false := by rw [beq_eq_false_iff_ne]; omega
  have tp2 : ¬ (p : Int) = 0 := by omega
  cases OK
  · have hr4 : Except.error 4 = r := by
      rw [← hr.out]
      rcases o3 with _ | v
      · rfl
      · have := hOK.out; cases this
    clear hr
    replace hr4 := hide hr4
    go_wp2_with fail
    refine bodyPost_ret (v := .int .i64 4) (by simp [results, Tryz.results49, go_sem]) rfl ?_
    exact lineEnd_err hr4.out.symm (by decide) (by rw [hz0]; exact hb9.out)
  have ho4 : o3 = some PV := by
    rcases o3 with _ | v
    · have := hOK.out; cases this
    · have := hPV.out; exact congrArg some this
  subst ho4
  have hr4 := hr.out
  dsimp only at hr4
  rw [if_neg hp0] at hr4
  clear hr
  obtain ⟨R, hRd⟩ : ∃ R, List.drop 4 ws = R := ⟨_, rfl⟩
  rw [hRd] at hr4
  have hxR := hx4.out
  rw [hRd] at hxR
  have hlR : ∀ i, (wd R i).length ≤ 65536 := by
    intro i
    have := hlw.out (4 + i)
    unfold wd at this ⊢
    rw [← hRd, List.getD_eq_getElem?_getD, List.getElem?_drop, ← List.getD_eq_getElem?_getD]
    exact this
  clear hx4 hRd hp0
  have hcapm : m4 ≤ cap - 4 := by omega
  obtain ⟨c4, hc4⟩ : ∃ c4, cap - 4 = c4 := ⟨_, rfl⟩
  rw [hc4] at hcapm
  have hc4m : c4 ≤ maxLen := by omega
  replace hxR := hide hxR
  replace hlR := hide hlR
  replace hr4 := hide hr4
  go_upto_region 11 with fail
  clear kp
  obtain ⟨B1, hB1⟩ : ∃ B, decide (1 < m4 ∧ wd R 0 = wCopies) = B := ⟨_, rfl⟩
  go_cut [57] (fun bv wx => bv = .bool B1 ∧ w9 = wx)
  case first =>
    by_cases h1 : 1 < m4
    · obtain ⟨b4, o4, hA5, hb4, hcx⟩ := word_at hxR.out (by omega)
      have hb49 := hb9.out
      have d0 := (hb49.cell (p := ⟨b4, o4 + 0, none⟩) (by dsimp only; omega)).trans (hcx 0 (by omega))
      rw [Nat.add_zero] at d0
      have te := eqw (wd R 0) [99, 111, 112, 105, 101, 115]
      have hB2 : decide (wd R 0 = [99, 111, 112, 105, 101, 115]) = B1 := by
        rw [← hB1]
        apply Bool.eq_iff_iff.2
        simp only [decide_eq_true_iff]
        exact ⟨fun e => ⟨h1, e⟩, fun e => e.2⟩
      rw [hB2] at te
      have t1 : (1 : Int) < (m4 : Int) := by omega
      have t0 : (0 : Int) < (m4 : Int) := by omega
      clear hB2 hcx hb49 hB1 hA4
      subst hA5
      go_wp2_with fail
      go_meet
      exact ⟨rfl, rfl⟩
    · have hB2 : B1 = false := by
        rw [← hB1]
        exact decide_eq_false (fun e => h1 e.1)
      have t1 : ¬ (1 : Int) < (m4 : Int) := by omega
      subst hB2
      go_wp2_with fail
      go_meet
      exact ⟨rfl, rfl⟩
  case rest =>
  obtain ⟨rfl, rfl⟩ := hcut
  replace hB1 := hide hB1
  go_upto_if 57 with fail
  go_cut [10, 11, 12] (fun rv _ _ wx => ∃ (cp : Nat) (R2 : List (List UInt8)) (A2 : Option Addr) (m2 c2 : Nat), rv = .slice A2 m2 c2 ∧ copF R = some (cp, R2) ∧ IsR strv w base A2 m2 R2 ∧ m2 ≤ c2 ∧ c2 ≤ maxLen ∧ wx.heap[zv]? = some (.cells #[.bool v6, .int .u64 (hi : Int), .int .u64 (lo : Int), .int .i64 (p : Int), .int .i64 (PV : Int), .int .i64 (cp : Int), .bool false] 70 (0, 0)) ∧ Below z0 w wx)
  case first =>
    cases B1
    · have hC : copF R = some (1, R) := by
        unfold copF
        rw [if_neg (by have := hB1.out; have hl := hxR.out.len; rw [hl]; exact of_decide_eq_false this)]
      go_wp2_with fail
      go_meet
      exact ⟨1, R, A4, m4, c4, rfl, hC, hxR.out, hcapm, hc4m, hg9.out, hb9.out⟩
    · obtain ⟨h1, hw0⟩ := of_decide_eq_true hB1.out
      have hC : copF R = (match lexF (wd R 1) 8 with
          | none => none
          | some n => if n < 2 then none else some (n, R.drop 2)) := by
        unfold copF
        have hl := hxR.out.len
        rw [if_pos (by rw [hl]; exact ⟨h1, hw0⟩)]
        rfl
      obtain ⟨b4, o4, hA5, hb4, hcx⟩ := word_at hxR.out (by omega)
      have d1 := (hb9.out.cell (p := ⟨b4, o4 + 1, none⟩) (by dsimp only; omega)).trans (hcx 1 h1)
      have t1 : (1 : Int) < (m4 : Int) := by omega
      have t2 : (2 : Int) ≤ (m4 : Int) := by omega
      have t0 : (0 : Int) < (m4 : Int) := by omega
      have q5 := lexNum_any (wd R 1) (Nat.le_trans (hlR.out 1) (by decide)) 8 w9
      clear hcx hA4
      subst hA5
      have hx2 := isr_from hxR.out 2 (by omega) hcapm
      have hr5 := hr4.out
      rw [hC] at hr5
      clear hr4
      replace hC := hide hC
      rcases hq : lexF (wd R 1) 8 with _ | cp
      · rw [hq] at hr5 q5
        rw [lexV_none] at q5
        replace q5 := hide q5
        replace hr5 := hide hr5
        replace hq := hide hq
        go_wp2_with fail
        refine (q5.out).mono ?_
        rintro e w9 ⟨rfl, rfl⟩
        go_wp2_with fail
        refine bodyPost_ret (v := .int .i64 5) (by simp [results, Tryz.results49, go_sem]) rfl ?_
        exact lineEnd_err hr5.out.symm (by decide) (by rw [hz0]; exact hb9.out)
      · rw [hq] at hr5 q5
        rw [lexV_some] at q5
        dsimp only at hr5
        by_cases h2 : cp < 2
        · rw [if_pos h2] at hr5
          have t3 : (cp : Int) < 2 := by omega
          replace q5 := hide q5
          replace hr5 := hide hr5
          replace hq := hide hq
          go_wp2_with fail
          refine (q5.out).mono ?_
          rintro e w9 ⟨rfl, rfl⟩
          go_wp2_with fail
          refine bodyPost_ret (v := .int .i64 5) (by simp [results, Tryz.results49, go_sem]) rfl ?_
          exact lineEnd_err hr5.out.symm (by decide) (by rw [hz0]; exact hb9.out)
        · have hC2 : copF R = some (cp, R.drop 2) := by
            rw [hC.out, hq]
            exact if_neg h2
          have t3 : ¬ (cp : Int) < 2 := by omega
          clear hr5 hC
          replace hC2 := hide hC2
          obtain ⟨A2, hA2⟩ : ∃ A2, (if c4 = 2 then some ⟨b4, o4, none⟩ else some ⟨b4, o4 + 2, none⟩ : Option Addr) = A2 := ⟨_, rfl⟩
          obtain ⟨m2, hm2⟩ : ∃ m2, m4 - 2 = m2 := ⟨_, rfl⟩
          obtain ⟨c2', hc2⟩ : ∃ c2, c4 - 2 = c2 := ⟨_, rfl⟩
          have hfit : m2 ≤ c2' ∧ c2' ≤ maxLen := by omega
          rw [hA2, hm2] at hx2
          replace q5 := hide q5
          replace hq := hide hq
          replace hx2 := hide hx2
          replace hfit := hide hfit
          go_wp2_with fail
          refine (q5.out).mono ?_
          rintro e w9 ⟨rfl, rfl⟩
          go_upto_region 15 with fail
          refine wp_region_X (KeptS w9.heap.size (fun k => k = zv)) (by as_aux_lemma => kernel_rfl) ?_
          intro w7 hbd
          have hb7 := hb9.out.trans (hbd.mono (by have := hb9.out.size; omega))
          have hg7 := blk_below hbd hz9 hg9.out
          have hz7 := hbd.size
          obtain ⟨w6, hw6⟩ : ∃ w6, w7.setCell ⟨zv, 5, none⟩ (.int .i64 (cp : Int)) = w6 := ⟨_, rfl⟩
          have hk6 : KeptS w9.heap.size (fun k => k = zv) w7 w6 := hw6 ▸ keptS_set (P := fun k => k = zv) (keptS_refl w9.heap.size (fun k => k = zv) w7) (p := ⟨zv, 5, none⟩) rfl _
          have hg6 : w6.heap[zv]? = some (.cells #[.bool v6, .int .u64 (hi : Int), .int .u64 (lo : Int), .int .i64 (p : Int), .int .i64 (PV : Int), .int .i64 (cp : Int), .bool false] 70 (0, 0)) := hw6 ▸ blk_set hg7 5 _
          have hb6 : Below z0 w w6 := hw6 ▸ hb7.setCell (p := ⟨zv, 5, none⟩) hbz2 _
          have hca := blk_cell hg7 5
          have hfa := blk_free hg7 5
          clear hb7 hg7
          replace hk6 := hide hk6
          replace hg6 := hide hg6
          replace hb6 := hide hb6
          refine wpX_seg (KeptS w9.heap.size (fun k => k = zv)) 0 4 (fuel := 2) (by as_aux_lemma => kernel_rfl) (fun d _ _ _ _ h => by cases d <;> exact h) (by as_aux_lemma => kernel_rfl) (by as_aux_lemma => kernel_rfl) ?_
          simp only [List.drop_zero, List.take_succ_cons, List.take_zero]
          iterate 4 (refine wpQX_step (fun K hK => ?_); go_simp; refine hK _ ?_; clear hK K)
          refine wpQF_nil ?_
          refine wpF_step 4 rfl (by as_aux_lemma => kernel_rfl) (fun K hK => ?_)
          go_simp
          refine hK _ _ hk6.out ?_
          clear hK K hca hfa hw6
          refine wpF_step 5 rfl (by as_aux_lemma => kernel_rfl) (fun K hK => ?_)
          go_simp
          refine hK _ _ (IsRel.refl _) ?_
          clear hK K
          refine wpF_done (by as_aux_lemma => kernel_rfl) ?_ 0
          go_wp2_with fail
          go_meet
          exact ⟨cp, R.drop 2, A2, m2, c2', rfl, hC2.out, hx2.out, hfit.out.1, hfit.out.2, hg6.out, hb6.out⟩
  case rest =>
  obtain ⟨cp, R2, A2, m2, c2', rfl, hC, hx2, hm2, hc2, hgc, hbc⟩ := hcut
  have hr5 := hr4.out
  rw [hC] at hr5
  dsimp only at hr5
  clear hg9 hb9 hr4 hxR hB1 hC
  have hzc := lt_of_blk hgc
  have hlR2 : True := trivial
  replace hx2 := hide hx2
  replace hgc := hide hgc
  replace hbc := hide hbc
  replace hr5 := hide hr5
  go_upto_region 16 with fail
  obtain ⟨B3, hB3⟩ : ∃ B, decide (0 < m2 ∧ wd R2 0 = wNat) = B := ⟨_, rfl⟩
  go_cut [83] (fun bv wx => bv = .bool B3 ∧ wc = wx)
  case first =>
    by_cases h1 : 0 < m2
    · obtain ⟨b4, o4, hA5, hb4, hcx⟩ := word_at hx2.out (by omega)
      have d0 := (hbc.out.cell (p := ⟨b4, o4 + 0, none⟩) (by dsimp only; omega)).trans (hcx 0 (by omega))
      rw [Nat.add_zero] at d0
      have te := eqw (wd R2 0) [110, 97, 116]
      have hB2 : decide (wd R2 0 = [110, 97, 116]) = B3 := by
        rw [← hB3]
        apply Bool.eq_iff_iff.2
        simp only [decide_eq_true_iff]
        exact ⟨fun e => ⟨h1, e⟩, fun e => e.2⟩
      rw [hB2] at te
      have t0 : (0 : Int) < (m2 : Int) := by omega
      clear hB2 hcx hB3
      subst hA5
      go_wp2_with fail
      go_meet
      exact ⟨rfl, rfl⟩
    · have hB2 : B3 = false := by
        rw [← hB3]
        exact decide_eq_false (fun e => h1 e.1)
      have t1 : ¬ (0 : Int) < (m2 : Int) := by omega
      subst hB2
      go_wp2_with fail
      go_meet
      exact ⟨rfl, rfl⟩
  case rest =>
  obtain ⟨rfl, rfl⟩ := hcut
  replace hB3 := hide hB3
  go_upto_if 83 with fail
  go_cut [10] (fun rv wx => ∃ (nt : Bool) (R3 : List (List UInt8)) (A3 : Option Addr) (m3 c3 : Nat), rv = .slice A3 m3 c3 ∧ natF R2 = (nt, R3) ∧ R3.length = m3 ∧ wx.heap[zv]? = some (.cells #[.bool v6, .int .u64 (hi : Int), .int .u64 (lo : Int), .int .i64 (p : Int), .int .i64 (PV : Int), .int .i64 (cp : Int), .bool nt] 70 (0, 0)) ∧ Below z0 w wx)
  case first =>
    cases B3
    · have hN : natF R2 = (false, R2) := by
        unfold natF
        rw [if_neg (by have := hB3.out; have hl := hx2.out.len; rw [hl]; exact of_decide_eq_false this)]
      go_wp2_with fail
      go_meet
      exact ⟨false, R2, A2, m2, c2', rfl, hN, hx2.out.len, hgc.out, hbc.out⟩
    · obtain ⟨h1, hw0⟩ := of_decide_eq_true hB3.out
      have hN : natF R2 = (true, R2.drop 1) := by
        unfold natF
        have hl := hx2.out.len
        rw [if_pos (by rw [hl]; exact ⟨h1, hw0⟩)]
      obtain ⟨b4, o4, hA5, hb4, -⟩ := word_at hx2.out (by omega)
      have t1 : (1 : Int) ≤ (m2 : Int) := by omega
      subst hA5
      have hx3 := isr_from hx2.out 1 (by omega) hm2
      obtain ⟨A3, hA3⟩ : ∃ A3, (if c2' = 1 then some ⟨b4, o4, none⟩ else some ⟨b4, o4 + 1, none⟩ : Option Addr) = A3 := ⟨_, rfl⟩
      obtain ⟨m3, hm3⟩ : ∃ m3, m2 - 1 = m3 := ⟨_, rfl⟩
      obtain ⟨c3, hc3⟩ : ∃ c3, c2' - 1 = c3 := ⟨_, rfl⟩
      rw [hA3, hm3] at hx3
      replace hx3 := hide hx3
      replace hN := hide hN
      go_upto_region 17 with fail
      refine wp_region_X (KeptS wc.heap.size (fun k => k = zv)) (by as_aux_lemma => kernel_rfl) ?_
      intro w7 hbd
      have hb7 := hbc.out.trans (hbd.mono (by have := hbc.out.size; omega))
      have hg7 := blk_below hbd hzc hgc.out
      have hz7 := hbd.size
      obtain ⟨w6, hw6⟩ : ∃ w6, w7.setCell ⟨zv, 6, none⟩ (.bool true) = w6 := ⟨_, rfl⟩
      have hk6 : KeptS wc.heap.size (fun k => k = zv) w7 w6 := hw6 ▸ keptS_set (P := fun k => k = zv) (keptS_refl wc.heap.size (fun k => k = zv) w7) (p := ⟨zv, 6, none⟩) rfl _
      have hg6 : w6.heap[zv]? = some (.cells #[.bool v6, .int .u64 (hi : Int), .int .u64 (lo : Int), .int .i64 (p : Int), .int .i64 (PV : Int), .int .i64 (cp : Int), .bool true] 70 (0, 0)) := hw6 ▸ blk_set hg7 6 _
      have hb6 : Below z0 w w6 := hw6 ▸ hb7.setCell (p := ⟨zv, 6, none⟩) hbz2 _
      have hca := blk_cell hg7 6
      have hfa := blk_free hg7 6
      clear hb7 hg7
      replace hk6 := hide hk6
      replace hg6 := hide hg6
      replace hb6 := hide hb6
      refine wpX_seg (KeptS wc.heap.size (fun k => k = zv)) 0 3 (fuel := 2) (by as_aux_lemma => kernel_rfl) (fun d _ _ _ _ h => by cases d <;> exact h) (by as_aux_lemma => kernel_rfl) (by as_aux_lemma => kernel_rfl) ?_
      simp only [List.drop_zero, List.take_succ_cons, List.take_zero]
      iterate 3 (refine wpQX_step (fun K hK => ?_); go_simp; refine hK _ ?_; clear hK K)
      refine wpQF_nil ?_
      refine wpF_step 3 rfl (by as_aux_lemma => kernel_rfl) (fun K hK => ?_)
      go_simp
      refine hK _ _ hk6.out ?_
      clear hK K hca hfa hw6
      refine wpF_step 4 rfl (by as_aux_lemma => kernel_rfl) (fun K hK => ?_)
      go_simp
      refine hK _ _ (IsRel.refl _) ?_
      clear hK K
      refine wpF_done (by as_aux_lemma => kernel_rfl) ?_ 0
      go_wp2_with fail
      go_meet
      exact ⟨true, R2.drop 1, A3, m3, c3, rfl, hN.out, hx3.out.len, hg6.out, hb6.out⟩
  case rest =>
  obtain ⟨nt, R3, A3, m3, c3, rfl, hN, hR3, hgn, hbn⟩ := hcut
  have hr6 := hr5.out
  rw [hN] at hr6
  dsimp only at hr6
  rw [hR3] at hr6
  clear hgc hbc hr5 hx2 hB3 hN
  have hzn := lt_of_blk hgn
  by_cases hm0 : 0 < m3
  · rw [if_pos hm0] at hr6
    have t1 : (0 : Int) < (m3 : Int) := by omega
    clear hgn
    replace hbn := hide hbn
    replace hr6 := hide hr6
    go_wp2_with fail
    refine bodyPost_ret (v := .int .i64 4) (by simp [results, Tryz.results49, go_sem]) rfl ?_
    exact lineEnd_err hr6.out.symm (by decide) (by rw [hz0]; exact hbn.out)
  rw [if_neg hm0] at hr6
  have t1 : ¬ (0 : Int) < (m3 : Int) := by omega
  have h2 := h9.out.on (by rw [hz0]; exact hbn)
  replace hgn := hide hgn
  replace hbn := hide hbn
  replace hr6 := hide hr6
  replace h2 := hide h2
  go_upto_region 20 with fail
  have hrx := row_not_x h2.out.cfg.vips h2.out.cfg.blk h2.out.cfg.hT.2.1
  have hrz : vv.ownBlock = some zv → False := fun e => by have := (World.ownsRow.lt h9.out.cfg.vips _ e).2; omega
  refine wp_region_Y [12] (KeptS wc.heap.size (fun k => vv.ownBlock = some k)) (by as_aux_lemma => kernel_rfl) ?_
  intro we hbe
  have hLe := h2.out.on hbe
  have hge := blk_below hbe hzn hgn.out
  have hBe := (hbn.out.mono hbz).trans (hbe.mono (by have := hbn.out.size; omega))
  have ze := hbe.size
  have lx := fun l : RelW (KeptS wc.heap.size (fun k => vv.ownBlock = some k)) we => (show l.w.cell? ⟨x, 1, none⟩ = some vv from blk_cell ((l.hk.block x h2.out.xlt (by rcases hrx with e | e <;> (intro e2; first | (rw [e] at e2; cases e2) | exact e e2))).trans hLe.cfg.blk) 1)
  have lz := fun l : RelW (KeptS wc.heap.size (fun k => vv.ownBlock = some k)) we => blk_cell ((l.hk.block zv hzn hrz).trans hge)
  clear h2 hgn hbn hbe hrx hrz
  replace hLe := hide hLe
  replace hBe := hide hBe
  refine wpY_seg [12] (KeptS wc.heap.size (fun k => vv.ownBlock = some k)) 0 7 (fuel := 6) (by as_aux_lemma => kernel_rfl) (fun d _ _ _ _ h => by cases d <;> exact h) (by as_aux_lemma => kernel_rfl) (by as_aux_lemma => kernel_rfl) (by as_aux_lemma => kernel_rfl) ?_
  simp only [List.drop_zero, List.take_succ_cons, List.take_zero]
  iterate 7 (refine wpQX_step (fun K hK => ?_); go_simp; refine hK _ ?_; clear hK K)
  refine wpQF_nil ?_
  clear lx lz hge
  refine wpW_step 7 rfl (by as_aux_lemma => kernel_rfl) (fun K hK => ?_)
  go_simp
  refine hK _ _ (relY_of (keptS_of_below ((Below.refl _ _).alloc (Nat.le_refl _) _) ze)) ?_
  clear hK K
  obtain ⟨w10, hw10⟩ : ∃ w10, we.alloc (.cells (vpC ⟨⟨v6, hi, lo⟩, (p : Int), (PV : Int), (cp : Int), nt⟩).toArray 70) = w10 := ⟨_, rfl⟩
  have hb10 : Below we.heap.size we w10 := hw10 ▸ (Below.refl _ _).alloc (Nat.le_refl _) _
  have hn10 : w10.heap[we.heap.size]? = some (.cells (vpC ⟨⟨v6, hi, lo⟩, (p : Int), (PV : Int), (cp : Int), nt⟩).toArray 70 (0, 0)) := hw10 ▸ blk_new _ _ _
  change wpW _ _ _ _ _ _ _ _ (we.alloc (.cells (vpC ⟨⟨v6, hi, lo⟩, (p : Int), (PV : Int), (cp : Int), nt⟩).toArray 70))
  rw [hw10]
  have hL10 := hLe.out.on hb10
  have hB10 := hBe.out.trans (hb10.mono (by have := hLe.out.xlt; omega))
  have z10 := hb10.size
  clear hw10 hb10 hLe hBe
  refine wpW_step 8 rfl (by as_aux_lemma => kernel_rfl) (fun K hK => ?_)
  rw [if_pos (by unfold Region.wanted; rfl)]
  refine wp_app_c (T := 70) Tryz.underlying27 info_vp rfl (by decide) (by decide) (.tmp 95) (.tmp 97) rfl base vv c.vips.length _ (vpC ⟨⟨v6, hi, lo⟩, (p : Int), (PV : Int), (cp : Int), nt⟩) we.heap.size rfl rfl hL10.cfg.vips hn10 rfl (vpC_one _) (by have := hL10.xlt; omega) (by have := hs.2.1; omega) fun v11 w11 h1 h2 => hK _ _ (relY_of ⟨h2.grown.os, h2.grown.tape, h2.grown.output, h2.grown.size, fun k hk hne => h2.grown.block k (by omega) (fun e => hne e.symm)⟩) ?_
  clear hK K hn10
  obtain ⟨A11, c11, hv11, -, -, -⟩ := own_isv h1
  subst hv11
  obtain ⟨hx11, hL12⟩ := hL10.pushV h1 h2
  have hB11 := hB10.trans (below_of_grown h2.grown (by have := hL10.xlt; omega) (fun k hk => (World.ownsRow.lt hL10.cfg.vips _ hk).1))
  have hB12 : Below base w (w11.setCell ⟨x, 1, none⟩ (.slice A11 (c.vips.length + 1) c11)) := hB11.setCell (p := ⟨x, 1, none⟩) hbx _
  have hc : w11.cell? ⟨x, 1, none⟩ = some vv := blk_cell hx11 1
  have hf := blk_free hx11 1
  clear h1 h2 hL10 hB10 hB11 hx11
  obtain ⟨w12, hw12⟩ : ∃ w12, w11.setCell ⟨x, 1, none⟩ (.slice A11 (c.vips.length + 1) c11) = w12 := ⟨_, rfl⟩
  rw [hw12] at hL12 hB12
  replace hL12 := hide hL12
  replace hB12 := hide hB12
  refine wpW_step 9 rfl (by as_aux_lemma => kernel_rfl) (fun K hK => ?_)
  go_simp
  refine hK _ _ (relY_of (IsRel.refl _)) ?_
  clear hK K
  refine wpW_step 10 rfl (by as_aux_lemma => kernel_rfl) (fun K hK => ?_)
  go_simp
  refine hK _ _ (relY_of (IsRel.refl _)) ?_
  clear hK K
  refine wpW_step 11 rfl (by as_aux_lemma => kernel_rfl) (fun K hK => ?_)
  go_simp
  refine hK _ _ (relY_of (IsRel.refl _)) ?_
  clear hK K
  refine wpW_step 12 rfl (by as_aux_lemma => kernel_rfl) (fun K hK => ?_)
  go_simp
  refine hK _ _ (relY_wr (by as_aux_lemma => kernel_rfl)) ?_
  clear hK K hc hf hw12
  refine wpW_done (by as_aux_lemma => kernel_rfl) ?_ _
  go_wp2_with fail
  refine bodyPost_ret (v := .int .i64 0) (by simp [results, Tryz.results49, go_sem]) rfl ?_
  exact lineEnd_ok hr6.out.symm ⟨mb, ma, nv, _, wv, hL12.out⟩ hB12.out
end Conf18
end Go.Proofs.YtcpokkkdmenmgaaGreatDoor
/- conf: view: a line that says where sources begin. Conditions: words of at most 2^16 bytes. -/
namespace Go.Proofs.YtcpokkkdmenmgaaGreatDoor
open Go.RowKit Go.ChangeShapes Go.WideShapes Go.ChangeAt Go.Deep
namespace Conf18
open Addr05
set_option maxRecDepth 20000 in
set_option maxHeartbeats 8000000 in
theorem view_any (ws : List (List UInt8)) (c : Cfg) (w : World) (base x k : Nat) (A : Option Addr) (hx : IsR strv w base A ws.length ws) (hl : ∀ y ∈ ws, y.length ≤ 65536) (hm : MaxAt w) (hs : c.small 4096) (hR : RdAt base x w c) :
    Calls Tryz.prog 50 #[.pointer (some ⟨x, 0, none⟩), .slice A ws.length k] w fun e w' => LineEnd (RdAt base x) base (viewF c ws) w w' e := by
  obtain ⟨r, hr⟩ : ∃ r, viewF c ws = r := ⟨_, rfl⟩
  rw [hr]
  by_cases hn : ws.length = 3
  · obtain ⟨y0, y1, y2, rfl⟩ := three_words hn
    obtain ⟨b, off, rfl, hb, hc⟩ := words_at hx (by simp)
    have c1 : w.cell? ⟨b, off + 1, none⟩ = some (.string (str y1)) := hc 1 (by simp)
    have c2 : w.cell? ⟨b, off + 2, none⟩ = some (.string (str y2)) := hc 2 (by simp)
    have q := pParse_any y1 (hl y1 (by simp)) w hm
    have q2 := fun w => lexNum_any y2 (Nat.le_trans (hl y2 (by simp)) (by decide)) 3 w
    unfold viewF at hr
    rw [if_neg (by simp), show wd [y0, y1, y2] 1 = y1 from rfl, show wd [y0, y1, y2] 2 = y2 from rfl] at hr
    change Calls Tryz.prog _ #[_, .slice _ 3 _] w _
    obtain ⟨mb, ma, nv, vv, wv, h⟩ := hR
    have hbx := h.cfg.hx
    have hxs := h.xlt
    clear hn hx hl hc hm
    rcases hp : pfxF y1 with _ | ⟨a, n⟩
    · rw [hp] at hr q
      have q1 : Calls Tryz.prog 64 #[.string (str y1)] w fun e w' => e = .returned (.tuple #[.agg #[.bool false, .int .u64 0, .int .u64 0, .int .i64 0], .int .i64 18]) ∧ Below w.heap.size w w' := q
      clear q
      replace h := hide h
      replace hr := hide hr
      replace q1 := hide q1
      replace q2 := hide q2
      replace hp := hide hp
      go_enter Tryz.func50, Tryz.ntmps50
      go_upto_region 3 with fail
      apply wp_region_lit
      iterate 3 (refine wpList_plain rfl fun K hK => ?_; go_simp; refine hK _ _ ?_; clear hK K)
      refine wpList_plain rfl fun K hK => ?_
      go_simp
      refine (q1.out).mono ?_
      rintro e w1 ⟨rfl, hb1⟩
      go_simp
      refine hK _ _ ?_
      clear hK K
      iterate 3 (refine wpList_plain rfl fun K hK => ?_; go_simp; refine hK _ _ ?_; clear hK K)
      refine wpl_new rfl rfl 72 _ (alloc_pfx _ rfl) 5 rfl (.tmp 17) rfl _ (fun _ => rfl) (fun _ => rfl) rfl (by kernel_rfl) (p_one false 0 0 0) ?_
      intro w2 hg2 hb2 hz2
      iterate 1 (refine wpList_plain rfl fun K hK => ?_; go_simp; refine hK _ _ ?_; clear hK K)
      refine wpList_nil ?_
      go_simp
      have hb3 := hb1.trans (hb2.mono (by have := hb1.size; omega))
      clear hg2 hb1 hb2
      replace hb3 := hide hb3
      go_wp2_with fail
      refine bodyPost_ret (v := .int .i64 18) (by simp [results, Tryz.results50, go_sem]) rfl ?_
      exact lineEnd_err hr.out.symm (by decide) hb3.out
    · rw [hp] at hr q
      have q1 : Calls Tryz.prog 64 #[.string (str y1)] w fun e w' => e = .returned (.tuple #[.agg #[.bool a.v6, .int .u64 (a.hi : Int), .int .u64 (a.lo : Int), .int .i64 (n : Int)], .int .i64 0]) ∧ Below w.heap.size w w' := q
      clear q
      dsimp only at hr
      obtain ⟨v6, hi, lo⟩ := a
      dsimp only at q1 hr
      replace h := hide h
      replace hr := hide hr
      replace q1 := hide q1
      replace q2 := hide q2
      replace hp := hide hp
      go_enter Tryz.func50, Tryz.ntmps50
      go_upto_region 3 with fail
      apply wp_region_lit
      iterate 3 (refine wpList_plain rfl fun K hK => ?_; go_simp; refine hK _ _ ?_; clear hK K)
      refine wpList_plain rfl fun K hK => ?_
      go_simp
      refine (q1.out).mono ?_
      rintro e w1 ⟨rfl, hb1⟩
      go_simp
      refine hK _ _ ?_
      clear hK K
      iterate 3 (refine wpList_plain rfl fun K hK => ?_; go_simp; refine hK _ _ ?_; clear hK K)
      refine wpl_new rfl rfl 72 _ (alloc_pfx _ rfl) 5 rfl (.tmp 17) rfl _ (fun _ => rfl) (fun _ => rfl) rfl (by kernel_rfl) (p_one v6 (hi : Int) (lo : Int) (n : Int)) ?_
      intro w2 hg2 hb2 hz2
      iterate 1 (refine wpList_plain rfl fun K hK => ?_; go_simp; refine hK _ _ ?_; clear hK K)
      refine wpList_nil ?_
      go_simp
      have hb3 := hb1.trans (hb2.mono (by have := hb1.size; omega))
      have h2 := (h.out.on hb1).on hb2
      have c2' := (hb3.cell (p := ⟨b, off + 2, none⟩) (by dsimp only; omega)).trans c2
      have hz1 := hb1.size
      clear hb1 hb2 h q1
      rcases hq : lexF y2 3 with _ | m
      · have q3 := q2.out w2
        rw [hq, lexV_none] at q3
        have hr2 := hr.out
        rw [hq] at hr2
        clear hr q2 hg2
        replace hb3 := hide hb3
        replace h2 := hide h2
        replace q3 := hide q3
        replace hr2 := hide hr2
        replace hq := hide hq
        go_wp2_with fail
        refine (q3.out).mono ?_
        rintro e w2 ⟨rfl, rfl⟩
        go_wp2_with fail
        refine bodyPost_ret (v := .int .i64 5) (by simp [results, Tryz.results50, go_sem]) rfl ?_
        exact lineEnd_err hr2.out.symm (by decide) hb3.out
      · have q3 := q2.out w2
        rw [hq, lexV_some] at q3
        have hr2 := hr.out
        rw [hq] at hr2
        clear hr q2
        replace hb3 := hide hb3
        replace h2 := hide h2
        replace q3 := hide q3
        replace hr2 := hide hr2
        replace hq := hide hq
        replace hg2 := hide hg2
        go_wp2_with fail
        refine (q3.out).mono ?_
        rintro e w2 ⟨rfl, rfl⟩
        go_upto_region 9 with fail
        have hrx := row_not_x h2.out.cfg.views h2.out.cfg.blk h2.out.cfg.hT.2.2
        have hrz : (wv.ownBlock = some w1.heap.size) → False := fun e => by
          obtain ⟨_, _, e2, _⟩ := own_isv h2.out.cfg.views
          rcases h2.out.cfg.views.2 with ⟨e3, _⟩ | ⟨g, cap, cur, e3, hg, hh, _⟩
          · rw [e3] at e; cases e
          · rw [e3] at e
            have e4 : g = w1.heap.size := by simpa [Value.ownBlock] using e
            subst e4
            have := hg2.out
            rw [hh] at this
            simp at this
        refine wp_region_Y [14] (KeptS w2.heap.size (fun k => wv.ownBlock = some k)) (by as_aux_lemma => kernel_rfl) ?_
        intro we hbe
        have hLe := h2.out.on hbe
        have hge := blk_below hbe hz2 hg2.out
        have hBe := (hb3.out.mono (B' := base) (by omega)).trans (hbe.mono (by omega))
        have ze := hbe.size
        have lx := fun l : RelW (KeptS w2.heap.size (fun k => wv.ownBlock = some k)) we => (show l.w.cell? ⟨x, 2, none⟩ = some wv from blk_cell ((l.hk.block x h2.out.xlt (by rcases hrx with e | e <;> (intro e2; first | (rw [e] at e2; cases e2) | exact e e2))).trans hLe.cfg.blk) 2)
        have lz := fun l : RelW (KeptS w2.heap.size (fun k => wv.ownBlock = some k)) we => blk_cell ((l.hk.block w1.heap.size hz2 hrz).trans hge)
        clear h2 hg2 hb3 hbe hrx hrz
        replace hLe := hide hLe
        replace hBe := hide hBe
        refine wpY_seg [14] (KeptS w2.heap.size (fun k => wv.ownBlock = some k)) 0 9 (fuel := 6) (by as_aux_lemma => kernel_rfl) (fun d _ _ _ _ h => by cases d <;> exact h) (by as_aux_lemma => kernel_rfl) (by as_aux_lemma => kernel_rfl) (by as_aux_lemma => kernel_rfl) ?_
        simp only [List.drop_zero, List.take_succ_cons, List.take_zero]
        iterate 9 (refine wpQX_step (fun K hK => ?_); go_simp; refine hK _ ?_; clear hK K)
        refine wpQF_nil ?_
        clear lx lz hge
        refine wpW_step 9 rfl (by as_aux_lemma => kernel_rfl) (fun K hK => ?_)
        go_simp
        refine hK _ _ (relY_of (keptS_of_below ((Below.refl _ _).alloc (Nat.le_refl _) _) ze)) ?_
        clear hK K
        obtain ⟨w10, hw10⟩ : ∃ w10, we.alloc (.cells (vwC ⟨⟨v6, hi, lo⟩, (n : Int), (m : Int)⟩).toArray 74) = w10 := ⟨_, rfl⟩
        have hb10 : Below we.heap.size we w10 := hw10 ▸ (Below.refl _ _).alloc (Nat.le_refl _) _
        have hn10 : w10.heap[we.heap.size]? = some (.cells (vwC ⟨⟨v6, hi, lo⟩, (n : Int), (m : Int)⟩).toArray 74 (0, 0)) := hw10 ▸ blk_new _ _ _
        change wpW _ _ _ _ _ _ _ _ (we.alloc (.cells (vwC ⟨⟨v6, hi, lo⟩, (n : Int), (m : Int)⟩).toArray 74))
        rw [hw10]
        have hL10 := hLe.out.on hb10
        have hB10 := hBe.out.trans (hb10.mono (by omega))
        have z10 := hb10.size
        clear hw10 hb10 hLe hBe
        refine wpW_step 10 rfl (by as_aux_lemma => kernel_rfl) (fun K hK => ?_)
        rw [if_pos (by unfold Region.wanted; rfl)]
        refine wp_app_c (T := 74) Tryz.underlying28 info_vw rfl (by decide) (by decide) (.tmp 36) (.tmp 40) rfl base wv c.views.length _ (vwC ⟨⟨v6, hi, lo⟩, (n : Int), (m : Int)⟩) we.heap.size rfl rfl hL10.cfg.views hn10 rfl (vwC_one _) (by omega) (by have := hs.2.2; omega) fun v11 w11 h1 h2 => hK _ _ (relY_of ⟨h2.grown.os, h2.grown.tape, h2.grown.output, h2.grown.size, fun k hk hne => h2.grown.block k (by omega) (fun e => hne e.symm)⟩) ?_
        clear hK K hn10
        obtain ⟨A11, c11, hv11, -, -, -⟩ := own_isv h1
        subst hv11
        obtain ⟨hx11, hL12⟩ := hL10.pushW h1 h2
        have hB11 := hB10.trans (below_of_grown h2.grown (by omega) (fun k hk => (World.ownsRow.lt hL10.cfg.views _ hk).1))
        have hB12 : Below base w (w11.setCell ⟨x, 2, none⟩ (.slice A11 (c.views.length + 1) c11)) := hB11.setCell (p := ⟨x, 2, none⟩) hbx _
        have hc : w11.cell? ⟨x, 2, none⟩ = some wv := blk_cell hx11 2
        have hf := blk_free hx11 2
        clear h1 h2 hL10 hB10 hB11 hx11
        obtain ⟨w12, hw12⟩ : ∃ w12, w11.setCell ⟨x, 2, none⟩ (.slice A11 (c.views.length + 1) c11) = w12 := ⟨_, rfl⟩
        rw [hw12] at hL12 hB12
        replace hL12 := hide hL12
        replace hB12 := hide hB12
        refine wpW_step 11 rfl (by as_aux_lemma => kernel_rfl) (fun K hK => ?_)
        go_simp
        refine hK _ _ (relY_of (IsRel.refl _)) ?_
        clear hK K
        refine wpW_step 12 rfl (by as_aux_lemma => kernel_rfl) (fun K hK => ?_)
        go_simp
        refine hK _ _ (relY_of (IsRel.refl _)) ?_
        clear hK K
        refine wpW_step 13 rfl (by as_aux_lemma => kernel_rfl) (fun K hK => ?_)
        go_simp
        refine hK _ _ (relY_of (IsRel.refl _)) ?_
        clear hK K
        refine wpW_step 14 rfl (by as_aux_lemma => kernel_rfl) (fun K hK => ?_)
        go_simp
        refine hK _ _ (relY_wr (by as_aux_lemma => kernel_rfl)) ?_
        clear hK K hc hf hw12
        refine wpW_done (by as_aux_lemma => kernel_rfl) ?_ _
        go_wp2_with fail
        refine bodyPost_ret (v := .int .i64 0) (by simp [results, Tryz.results50, go_sem]) rfl ?_
        exact lineEnd_ok hr2.out.symm ⟨mb, ma, nv, vv, _, hL12.out⟩ hB12.out
  · have t : ((ws.length : Int) != 3) = true := ne_nat (k := 3) hn
    unfold viewF at hr
    rw [if_pos hn] at hr
    clear hn hx hl hm
    replace hR := hide hR
    replace hr := hide hr
    go_enter Tryz.func50, Tryz.ntmps50
    go_wp2_with fail
    go_ret
    exact lineEnd_err hr.out.symm (by decide) (Below.refl _ _)
end Conf18
end Go.Proofs.YtcpokkkdmenmgaaGreatDoor
/- conf: self: a line that says from which address packets are sent. Conditions: words of at most 2^16 bytes. -/
namespace Go.Proofs.YtcpokkkdmenmgaaGreatDoor
open Go.RowKit Go.ChangeShapes Go.WideShapes Go.ChangeAt Go.Deep
namespace Conf18
open Addr05
theorem isZ_iff (a : Adr) : Adr.isZ a = true ↔ a = zA := by
  obtain ⟨v6, hi, lo⟩ := a
  unfold Adr.isZ zA
  rw [decide_eq_true_iff]
  constructor
  · rintro ⟨rfl, rfl, rfl⟩; rfl
  · intro h; cases h; exact ⟨rfl, rfl, rfl⟩
set_option maxRecDepth 20000 in
set_option maxHeartbeats 8000000 in
theorem self_any (ws : List (List UInt8)) (c : Cfg) (w : World) (base x k : Nat) (A : Option Addr) (hx : IsR strv w base A ws.length ws) (hl : ∀ y ∈ ws, y.length ≤ 65536) (hm : MaxAt w) (hR : RdAt base x w c) :
    Calls Tryz.prog 48 #[.pointer (some ⟨x, 0, none⟩), .slice A ws.length k] w fun e w' => LineEnd (RdAt base x) base (selfF c ws) w w' e := by
  obtain ⟨r, hr⟩ : ∃ r, selfF c ws = r := ⟨_, rfl⟩
  rw [hr]
  by_cases hn : ws.length = 2
  · obtain ⟨y0, y1, rfl⟩ := two_words hn
    obtain ⟨b, off, rfl, hb, hc⟩ := words_at hx (by simp)
    have c1 : w.cell? ⟨b, off + 1, none⟩ = some (.string (str y1)) := hc 1 (by simp)
    have q := Parse_any y1 (hl y1 (by simp)) w hm
    unfold selfF at hr
    rw [if_neg (by simp), show wd [y0, y1] 1 = y1 from rfl] at hr
    change Calls Tryz.prog _ #[_, .slice _ 2 _] w _
    obtain ⟨mb, ma, nv, vv, wv, h⟩ := hR
    have hbx := h.cfg.hx
    have hxs := h.xlt
    clear hn hx hl hc hm
    rcases hp : parseF y1 with _ | a
    · rw [hp] at hr q
      have q1 : Calls Tryz.prog 62 #[.string (str y1)] w fun e w' => e = .returned (.tuple #[.agg #[.bool false, .int .u64 0, .int .u64 0], .int .i64 18]) ∧ Below w.heap.size w w' := q
      clear q
      replace h := hide h
      replace hr := hide hr
      replace q1 := hide q1
      replace hp := hide hp
      go_enter Tryz.func48, Tryz.ntmps48
      go_upto_region 3 with fail
      apply wp_region_lit
      iterate 3 (refine wpList_plain rfl fun K hK => ?_; go_simp; refine hK _ _ ?_; clear hK K)
      refine wpList_plain rfl fun K hK => ?_
      go_simp
      refine (q1.out).mono ?_
      rintro e w1 ⟨rfl, hb1⟩
      go_simp
      refine hK _ _ ?_
      clear hK K
      iterate 3 (refine wpList_plain rfl fun K hK => ?_; go_simp; refine hK _ _ ?_; clear hK K)
      refine wpl_new rfl rfl 31 _ (alloc_adr _ rfl) 5 rfl (.tmp 16) rfl _ (fun _ => rfl) (fun _ => rfl) rfl (by kernel_rfl) (adr_one false 0 0) ?_
      intro w2 hg2 hb2 hz2
      iterate 1 (refine wpList_plain rfl fun K hK => ?_; go_simp; refine hK _ _ ?_; clear hK K)
      refine wpList_nil ?_
      go_simp
      have hb3 := hb1.trans (hb2.mono (by have := hb1.size; omega))
      clear hg2 hb1 hb2
      replace hb3 := hide hb3
      go_wp2_with fail
      refine bodyPost_ret (v := .int .i64 18) (by simp [results, Tryz.results48, go_sem]) rfl ?_
      exact lineEnd_err hr.out.symm (by decide) hb3.out
    · rw [hp] at hr q
      obtain ⟨v6, hi, lo⟩ := a
      have q1 : Calls Tryz.prog 62 #[.string (str y1)] w fun e w' => e = .returned (.tuple #[.agg #[.bool v6, .int .u64 (hi : Int), .int .u64 (lo : Int)], .int .i64 0]) ∧ Below w.heap.size w w' := q
      clear q
      dsimp only at hr
      replace h := hide h
      replace hr := hide hr
      replace q1 := hide q1
      replace hp := hide hp
      go_enter Tryz.func48, Tryz.ntmps48
      go_upto_region 3 with fail
      apply wp_region_lit
      iterate 3 (refine wpList_plain rfl fun K hK => ?_; go_simp; refine hK _ _ ?_; clear hK K)
      refine wpList_plain rfl fun K hK => ?_
      go_simp
      refine (q1.out).mono ?_
      rintro e w1 ⟨rfl, hb1⟩
      go_simp
      refine hK _ _ ?_
      clear hK K
      iterate 3 (refine wpList_plain rfl fun K hK => ?_; go_simp; refine hK _ _ ?_; clear hK K)
      refine wpl_new rfl rfl 31 _ (alloc_adr _ rfl) 5 rfl (.tmp 16) rfl _ (fun _ => rfl) (fun _ => rfl) rfl (by kernel_rfl) (adr_one v6 (hi : Int) (lo : Int)) ?_
      intro w2 hg2 hb2 hz2
      iterate 1 (refine wpList_plain rfl fun K hK => ?_; go_simp; refine hK _ _ ?_; clear hK K)
      refine wpList_nil ?_
      go_simp
      have hb3 := hb1.trans (hb2.mono (by have := hb1.size; omega))
      have h2 := (h.out.on hb1).on hb2
      have hz1 := hb1.size
      have c0 := blk_cell hg2
      have k5 : w2.cell? ⟨x, 5, none⟩ = some (.bool c.s0.v6) := blk_cell h2.cfg.blk 5
      have k6 : w2.cell? ⟨x, 6, none⟩ = some (.int .u64 (c.s0.hi : Int)) := blk_cell h2.cfg.blk 6
      have k7 : w2.cell? ⟨x, 7, none⟩ = some (.int .u64 (c.s0.lo : Int)) := blk_cell h2.cfg.blk 7
      have k8 : w2.cell? ⟨x, 8, none⟩ = some (.bool c.s1.v6) := blk_cell h2.cfg.blk 8
      have k9 : w2.cell? ⟨x, 9, none⟩ = some (.int .u64 (c.s1.hi : Int)) := blk_cell h2.cfg.blk 9
      have k10 : w2.cell? ⟨x, 10, none⟩ = some (.int .u64 (c.s1.lo : Int)) := blk_cell h2.cfg.blk 10
      have hr2 := hr.out
      clear hb1 hb2 h q1 hr
      have hr := hr2
      clear hr2
      replace hb3 := hide hb3
      replace h2 := hide h2
      replace hg2 := hide hg2
      cases v6
      · simp only [Bool.false_eq_true, ↓reduceIte] at hr
        obtain ⟨B, hB⟩ : ∃ B, decide (c.s0 = zA) = B := ⟨_, rfl⟩
        have hZ : Adr.isZ c.s0 = B := by rw [← hB, Bool.eq_iff_iff, isZ_iff, decide_eq_true_iff]
        obtain ⟨B2, hB2⟩ : ∃ B2, decide ((⟨false, hi, lo⟩ : Adr) = zA) = B2 := ⟨_, rfl⟩
        have hZ2 : Adr.isZ ⟨false, hi, lo⟩ = B2 := by rw [← hB2, Bool.eq_iff_iff, isZ_iff, decide_eq_true_iff]
        rw [hZ, hZ2] at hr
        replace hr := hide hr
        replace hZ := hide hZ
        replace hZ2 := hide hZ2
        go_upto_region 9 with fail
        apply wp_region_lit
        iterate 8 (refine wpList_plain rfl fun K hK => ?_; go_simp; refine hK _ _ ?_; clear hK K)
        refine wpl_neA rfl (.tmp 29) (.tmp 30) rfl c.s0 zA rfl rfl ?_
        rw [hB]
        refine wpList_nil ?_
        go_simp
        cases B
        · go_wp2_with fail
          refine bodyPost_ret (v := .int .i64 8) (by simp [results, Tryz.results48, go_sem]) rfl ?_
          exact lineEnd_err (hr.out.symm.trans (if_pos trivial)) (by decide) hb3.out
        · go_upto_region 11 with fail
          apply wp_region_lit
          iterate 2 (refine wpList_plain rfl fun K hK => ?_; go_simp; refine hK _ _ ?_; clear hK K)
          refine wpl_eqA rfl (.tmp 32) (.tmp 33) rfl ⟨false, hi, lo⟩ zA rfl rfl ?_
          rw [hB2]
          refine wpList_nil ?_
          go_simp
          have hr3 := hr.out
          rw [if_neg (by decide)] at hr3
          clear hr
          cases B2
          · rw [if_neg (by decide)] at hr3
            replace hr3 := hide hr3
            go_upto_region 13 with fail
            refine wp_region_X (KeptS w2.heap.size (fun k => k = x)) (by as_aux_lemma => kernel_rfl) ?_
            intro we hbe
            have hLe := h2.out.on hbe
            have hBe := (hb3.out.mono (B' := base) (by omega)).trans (hbe.mono (by omega))
            have lz := fun l : RelW (KeptS w2.heap.size (fun k => k = x)) we => blk_cell ((l.hk.block w1.heap.size hz2 (fun e => by omega)).trans (blk_below hbe hz2 hg2.out))
            have e5 : we.cell? ⟨x, 5, none⟩ = some (.bool c.s0.v6) := blk_cell hLe.cfg.blk 5
            have e6 : we.cell? ⟨x, 6, none⟩ = some (.int .u64 (c.s0.hi : Int)) := blk_cell hLe.cfg.blk 6
            have e7 : we.cell? ⟨x, 7, none⟩ = some (.int .u64 (c.s0.lo : Int)) := blk_cell hLe.cfg.blk 7
            have f5 := blk_free hLe.cfg.blk
            have g1 := hLe.set (c' := { c with s0 := ⟨false, c.s0.hi, c.s0.lo⟩ }) 5 (.bool false) rfl rfl rfl rfl rfl rfl
            have g2 := g1.set (c' := { c with s0 := ⟨false, hi, c.s0.lo⟩ }) 6 (.int .u64 (hi : Int)) rfl rfl rfl rfl rfl rfl
            have g3 := g2.set (c' := { c with s0 := ⟨false, hi, lo⟩ }) 7 (.int .u64 (lo : Int)) rfl rfl rfl rfl rfl rfl
            have hBf := ((hBe.trans (hLe.below_set 5 (.bool false))).trans (g1.below_set 6 (.int .u64 (hi : Int)))).trans (g2.below_set 7 (.int .u64 (lo : Int)))
            obtain ⟨w9, hw9⟩ : ∃ w9, ((we.setCell ⟨x, 5, none⟩ (.bool false)).setCell ⟨x, 6, none⟩ (.int .u64 (hi : Int))).setCell ⟨x, 7, none⟩ (.int .u64 (lo : Int)) = w9 := ⟨_, rfl⟩
            have hk9 : KeptS w2.heap.size (fun k => k = x) we w9 := hw9 ▸ keptS_set (P := fun k => k = x) (keptS_set (P := fun k => k = x) (keptS_set (P := fun k => k = x) (keptS_refl w2.heap.size (fun k => k = x) we) (p := ⟨x, 5, none⟩) rfl _) (p := ⟨x, 6, none⟩) rfl _) (p := ⟨x, 7, none⟩) rfl _
            rw [hw9] at g3 hBf
            clear hLe hBe hbe g1 g2 h2 hg2 hb3 k5 k6 k7 k8 k9 k10 c0
            replace g3 := hide g3
            replace hBf := hide hBf
            replace hk9 := hide hk9
            refine wpX_seg (KeptS w2.heap.size (fun k => k = x)) 0 7 (fuel := 1) (by as_aux_lemma => kernel_rfl) (fun d _ _ _ _ h => by cases d <;> exact h) (by as_aux_lemma => kernel_rfl) (by as_aux_lemma => kernel_rfl) ?_
            simp only [List.drop_zero, List.take_succ_cons, List.take_zero]
            iterate 7 (refine wpQX_step (fun K hK => ?_); go_simp; refine hK _ ?_; clear hK K)
            refine wpQF_nil ?_
            clear lz
            refine wpF_step 7 rfl (by as_aux_lemma => kernel_rfl) (fun K hK => ?_)
            go_simp
            refine hK _ _ hk9.out ?_
            clear hK K e5 e6 e7 f5 hw9
            refine wpF_done (by as_aux_lemma => kernel_rfl) ?_ 0
            go_wp2_with fail
            refine bodyPost_ret (v := .int .i64 0) (by simp [results, Tryz.results48, go_sem]) rfl ?_
            exact lineEnd_ok hr3.out.symm ⟨mb, ma, nv, vv, wv, g3.out⟩ hBf.out
          · rw [if_pos rfl] at hr3
            replace hr3 := hide hr3
            go_wp2_with fail
            refine bodyPost_ret (v := .int .i64 18) (by simp [results, Tryz.results48, go_sem]) rfl ?_
            exact lineEnd_err hr3.out.symm (by decide) hb3.out
      · simp only [↓reduceIte] at hr
        obtain ⟨B, hB⟩ : ∃ B, decide (c.s1 = zA) = B := ⟨_, rfl⟩
        have hZ : Adr.isZ c.s1 = B := by rw [← hB, Bool.eq_iff_iff, isZ_iff, decide_eq_true_iff]
        obtain ⟨B2, hB2⟩ : ∃ B2, decide ((⟨true, hi, lo⟩ : Adr) = zA) = B2 := ⟨_, rfl⟩
        have hZ2 : Adr.isZ ⟨true, hi, lo⟩ = B2 := by rw [← hB2, Bool.eq_iff_iff, isZ_iff, decide_eq_true_iff]
        rw [hZ, hZ2] at hr
        replace hr := hide hr
        replace hZ := hide hZ
        replace hZ2 := hide hZ2
        go_upto_region 9 with fail
        apply wp_region_lit
        iterate 8 (refine wpList_plain rfl fun K hK => ?_; go_simp; refine hK _ _ ?_; clear hK K)
        refine wpl_neA rfl (.tmp 29) (.tmp 30) rfl c.s1 zA rfl rfl ?_
        rw [hB]
        refine wpList_nil ?_
        go_simp
        cases B
        · go_wp2_with fail
          refine bodyPost_ret (v := .int .i64 8) (by simp [results, Tryz.results48, go_sem]) rfl ?_
          exact lineEnd_err (hr.out.symm.trans (if_pos trivial)) (by decide) hb3.out
        · go_upto_region 11 with fail
          apply wp_region_lit
          iterate 2 (refine wpList_plain rfl fun K hK => ?_; go_simp; refine hK _ _ ?_; clear hK K)
          refine wpl_eqA rfl (.tmp 32) (.tmp 33) rfl ⟨true, hi, lo⟩ zA rfl rfl ?_
          rw [hB2]
          refine wpList_nil ?_
          go_simp
          have hr3 := hr.out
          rw [if_neg (by decide)] at hr3
          clear hr
          cases B2
          · rw [if_neg (by decide)] at hr3
            replace hr3 := hide hr3
            go_upto_region 13 with fail
            refine wp_region_X (KeptS w2.heap.size (fun k => k = x)) (by as_aux_lemma => kernel_rfl) ?_
            intro we hbe
            have hLe := h2.out.on hbe
            have hBe := (hb3.out.mono (B' := base) (by omega)).trans (hbe.mono (by omega))
            have lz := fun l : RelW (KeptS w2.heap.size (fun k => k = x)) we => blk_cell ((l.hk.block w1.heap.size hz2 (fun e => by omega)).trans (blk_below hbe hz2 hg2.out))
            have e5 : we.cell? ⟨x, 8, none⟩ = some (.bool c.s1.v6) := blk_cell hLe.cfg.blk 8
            have e6 : we.cell? ⟨x, 9, none⟩ = some (.int .u64 (c.s1.hi : Int)) := blk_cell hLe.cfg.blk 9
            have e7 : we.cell? ⟨x, 10, none⟩ = some (.int .u64 (c.s1.lo : Int)) := blk_cell hLe.cfg.blk 10
            have f5 := blk_free hLe.cfg.blk
            have g1 := hLe.set (c' := { c with s1 := ⟨true, c.s1.hi, c.s1.lo⟩ }) 8 (.bool true) rfl rfl rfl rfl rfl rfl
            have g2 := g1.set (c' := { c with s1 := ⟨true, hi, c.s1.lo⟩ }) 9 (.int .u64 (hi : Int)) rfl rfl rfl rfl rfl rfl
            have g3 := g2.set (c' := { c with s1 := ⟨true, hi, lo⟩ }) 10 (.int .u64 (lo : Int)) rfl rfl rfl rfl rfl rfl
            have hBf := ((hBe.trans (hLe.below_set 8 (.bool true))).trans (g1.below_set 9 (.int .u64 (hi : Int)))).trans (g2.below_set 10 (.int .u64 (lo : Int)))
            obtain ⟨w9, hw9⟩ : ∃ w9, ((we.setCell ⟨x, 8, none⟩ (.bool true)).setCell ⟨x, 9, none⟩ (.int .u64 (hi : Int))).setCell ⟨x, 10, none⟩ (.int .u64 (lo : Int)) = w9 := ⟨_, rfl⟩
            have hk9 : KeptS w2.heap.size (fun k => k = x) we w9 := hw9 ▸ keptS_set (P := fun k => k = x) (keptS_set (P := fun k => k = x) (keptS_set (P := fun k => k = x) (keptS_refl w2.heap.size (fun k => k = x) we) (p := ⟨x, 8, none⟩) rfl _) (p := ⟨x, 9, none⟩) rfl _) (p := ⟨x, 10, none⟩) rfl _
            rw [hw9] at g3 hBf
            clear hLe hBe hbe g1 g2 h2 hg2 hb3 k5 k6 k7 k8 k9 k10 c0
            replace g3 := hide g3
            replace hBf := hide hBf
            replace hk9 := hide hk9
            refine wpX_seg (KeptS w2.heap.size (fun k => k = x)) 0 7 (fuel := 1) (by as_aux_lemma => kernel_rfl) (fun d _ _ _ _ h => by cases d <;> exact h) (by as_aux_lemma => kernel_rfl) (by as_aux_lemma => kernel_rfl) ?_
            simp only [List.drop_zero, List.take_succ_cons, List.take_zero]
            iterate 7 (refine wpQX_step (fun K hK => ?_); go_simp; refine hK _ ?_; clear hK K)
            refine wpQF_nil ?_
            clear lz
            refine wpF_step 7 rfl (by as_aux_lemma => kernel_rfl) (fun K hK => ?_)
            go_simp
            refine hK _ _ hk9.out ?_
            clear hK K e5 e6 e7 f5 hw9
            refine wpF_done (by as_aux_lemma => kernel_rfl) ?_ 0
            go_wp2_with fail
            refine bodyPost_ret (v := .int .i64 0) (by simp [results, Tryz.results48, go_sem]) rfl ?_
            exact lineEnd_ok hr3.out.symm ⟨mb, ma, nv, vv, wv, g3.out⟩ hBf.out
          · rw [if_pos rfl] at hr3
            replace hr3 := hide hr3
            go_wp2_with fail
            refine bodyPost_ret (v := .int .i64 18) (by simp [results, Tryz.results48, go_sem]) rfl ?_
            exact lineEnd_err hr3.out.symm (by decide) hb3.out
  · have t : ((ws.length : Int) != 2) = true := ne_nat (k := 2) hn
    unfold selfF at hr
    rw [if_pos hn] at hr
    clear hn hx hl hm
    replace hR := hide hR
    replace hr := hide hr
    go_enter Tryz.func48, Tryz.ntmps48
    go_wp2_with fail
    go_ret
    exact lineEnd_err hr.out.symm (by decide) (Below.refl _ _)
end Conf18
end Go.Proofs.YtcpokkkdmenmgaaGreatDoor
